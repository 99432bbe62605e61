/- Texts of this claim, put together: TxWalk13, TxPlain10, TxPlain13, BmWalk7, TxWalk6, WkPlain5, WkPlain6, WkPlain7, WkWalk5, WkShare, TxWalk7, TxWalk8, TxWalk5, TfPlain2, TxPlain11, TxWalk10, SoLays, SoSort, TvWalk18, TxWalk11. -/
import Derived.Test.YtcglabmlhljkmaaGreatZ02
import Derived.Test.YtcglabmlhljkmaaGreatZ07
import Derived.Test.YtcglabmlhljkmaaGreatZ08
import Derived.Test.YtcglabmlhljkmaaGreatZ04
import Derived.Test.YtcglabmlhljkmaaGreatZ06
import Derived.Test.YtcglabmlhljkmaaGreatZ03
import Derived.Test.YtcglabmlhljkmaaGreatZ05
import Derived.Test.YtcglabmlhljkmaaGreatZ01
import Derived.Test.YtcglabmlhljkmaaGreatChecked
import Derived.Shelf.Sort.Plain
import Derived.Sort.OwnSortedInts
import Derived.Test.YtcglabmlhljkmaaGreatZ00
set_option maxHeartbeats 64000000
set_option linter.unusedVariables false
set_option linter.unusedSimpArgs false
namespace Go.Proofs.YtcglabmlhljkmaaGreat
open Go Go.RowKit Go.Gv
set_option maxRecDepth 4000 in
theorem txn_Drop (pt pb tv d pv : Nat) (v : VS) (a : Int) (h : Nat) (s : SP) (m : BM) (op : Bool) (k : KEY) (hv : v.ok) (hl : v.S.W.length ≤ 1000000) (hm : m.u.length = 512) (hh : h ≤ 5) (y : ENT) (v1 : VS) (a1 : Int) (h1 : Nat) (m3 : BM) (hfG : fdG v.S h a k) (hfN : fdN v.S h a k = (y, 0)) (hG : dlG v a h k) (hD : dlN v a h k = (v1, (a1, h1), 0)) (hyl : 0 ≤ y.len ∧ y.len ≤ 65535) (hgv : giveM v1.m y.addr (pagesE y.len) = (m3, 0)) (hv1 : v1.ok) (hm3 : m3.u.length = 512) (hr3 : rightM m3 = true) (hp3 : m3.p = v1.m.p) :
  Gv.Spec Tryz.prog 41 #[.pointer (some ⟨pt, 0, none⟩), .agg (keyL k).toArray] [blk pt 163 (txL pb tv a (h : Int) false), blk pb 161 (baseL d pv s m op false), blk tv 146 (viewL d v), DSK d v.S]
  (fun r H' => r = .int .i64 0 ∧ H' = [blk pt 163 (txL pb tv a1 (h1 : Int) false), blk pb 161 (baseL d pv s m op false), blk tv 146 (viewL d (mapV v1 m3)), DSK d (mapV v1 m3).S]) := by
 have hdl := view_Delete tv d v a h k hv hG
 rw [hD] at hdl
 dsimp only at hdl
 refine Gv.Spec.of (fun w h0 hw0 => ?_)
 refine Calls.enter Tryz.func41 rfl rfl rfl hw0 ?_
 simp only [argSlots]
 refine Wap ?_
 have hfd := tree_Find tv d v a h k hv (by omega) hh hfG
 rw [hfN] at hfd
 refine Ws ?_
 (refine Wbx ?_; intro b3)
 refine Ws ?_
 refine Zd (txn_may pt pb tv d pv a (h : Int) false s m op false hm) ?_
 refine Ws ?_
 refine Zz 13 false ?_
 refine Ws ?_
 refine Wm [blk pt 163 (txL pb tv a (h : Int) false), blk b3 38 (keyL k)] ?_
 refine Wq [0, 1, 2, 3, 4, 5, 6] ?_
 refine Zm 7 (h := fun _ _ qK => by exact Zlg (ys := rootL a (h : Int)) qK (hl := by rfl)) (k := ?_)
 refine Zm 8 (h := fun _ _ qK => by exact Zla (cs := keyL k) qK (hl := by rfl)) (k := ?_)
 refine ZA2 9 13 ?_ ?_
 refine Zd hfd ?_
 refine Zw ?_
 refine Wq [10, 11, 12] ?_
 refine ZA 13 ?_
 refine Zal fun b6 => ?_
 refine Zw ?_
 refine ZA 14 ?_
 refine ZSa (ys := entL y) ?_ (h1 := by exact entL_one5 y)
 refine Zw ?_
 refine Wq [15] ?_
 refine ZE ?_
 refine Ws ?_
 refine Zz 29 false ?_
 rotate_left
 refine Zal fun b6 => ?_
 refine Zw ?_
 refine ZA 9 ?_
 refine Zd hfd ?_
 refine Zw ?_
 refine Wq [10, 11, 12] ?_
 refine ZA 14 ?_
 refine ZSa (ys := entL y) ?_ (h1 := by exact entL_one5 y)
 refine Zw ?_
 refine Wq [15] ?_
 refine ZE ?_
 refine Ws ?_
 refine Zz 29 false ?_
 rotate_left
 all_goals
  refine Ws ?_
  refine Wm [blk pt 163 (txL pb tv a (h : Int) false), blk b3 38 (keyL k)] ?_
  refine Wq [0, 1, 2, 3, 4, 5, 6] ?_
  refine Zm 7 (h := fun _ _ qK => by exact Zlg (ys := rootL a (h : Int)) qK (hl := by rfl)) (k := ?_)
  refine Zm 8 (h := fun _ _ qK => by exact Zla (cs := keyL k) qK (hl := by rfl)) (k := ?_)
  refine ZA2 9 13 ?_ ?_
  refine Zd hdl ?_
  refine Zw ?_
  refine Wq [10, 11, 12] ?_
  refine ZA 13 ?_
  refine Zal fun b8 => ?_
  refine Zw ?_
  refine ZA 14 ?_
  refine ZSa (ys := rootL a1 (h1 : Int)) ?_ (h1 := by exact two_int _ _)
  refine Zw ?_
  refine Wq [15] ?_
  refine ZE ?_
  refine Ws ?_
  refine Zz 47 false ?_
  rotate_left
  refine Zal fun b8 => ?_
  refine Zw ?_
  refine ZA 9 ?_
  refine Zd hdl ?_
  refine Zw ?_
  refine Wq [10, 11, 12] ?_
  refine ZA 14 ?_
  refine ZSa (ys := rootL a1 (h1 : Int)) ?_ (h1 := by exact two_int _ _)
  refine Zw ?_
  refine Wq [15] ?_
  refine ZE ?_
  refine Ws ?_
  refine Zz 47 false ?_
  rotate_left
  all_goals
   refine Ws ?_
   have hgm := bm_Give v1.m y.addr (pagesE y.len) hv1.m
   rw [hgv] at hgm
   refine Wm [blk pt 163 (txL pb tv a (h : Int) false), blk b6 40 (entL y)] ?_
   refine Wq [0, 1, 2, 3, 5, 6] ?_
   refine Zm 7 (h := fun _ _ qK => by exact Zla (cs := entL y) qK (hl := by rfl)) (k := ?_)
   refine ZA2 4 13 ?_ ?_
   refine Zd (view_Map tv d v1 hv1) ?_
   refine Zw ?_
   refine Zm 8 (h := fun _ _ qK => by exact Zcv (node_PagesE y hyl) qK) (k := ?_)
   refine Zm 9 (h := fun _ _ qK => by exact Zcv hgm qK) (k := ?_)
   refine Wq [10, 11, 12] ?_
   refine ZA 13 ?_
   refine Zal fun b9 => ?_
   refine Zw ?_
   refine ZA 14 ?_
   refine ZSa (ys := bmL m3) ?_ (hl := by exact bmL_len hm3) (hc := by exact z513g) (h1 := by exact bmL_one _)
   refine Zw ?_
   refine Wq [15] ?_
   refine ZE ?_
   refine Ws ?_
   refine Zz 65 false ?_
   rotate_left
   refine Zal fun b9 => ?_
   refine Zw ?_
   refine ZA 4 ?_
   refine Zd (view_Map tv d v1 hv1) ?_
   refine Zw ?_
   refine Zm 8 (h := fun _ _ qK => by exact Zcv (node_PagesE y hyl) qK) (k := ?_)
   refine Zm 9 (h := fun _ _ qK => by exact Zcv hgm qK) (k := ?_)
   refine Wq [10, 11, 12] ?_
   refine ZA 14 ?_
   refine ZSa (ys := bmL m3) ?_ (hl := by exact bmL_len hm3) (hc := by exact z513g) (h1 := by exact bmL_one _)
   refine Zw ?_
   refine Wq [15] ?_
   refine ZE ?_
   refine Ws ?_
   refine Zz 65 false ?_
   rotate_left
   all_goals
    refine Ws ?_
    refine Wm [blk pt 163 (txL pb tv a (h : Int) false), blk b9 60 (bmL m3)] ?_
    refine Wq [0, 1, 2, 3] ?_
    refine Zm 4 (h := fun _ _ qK => by exact Zla (cs := bmL m3) qK (hl := by exact bmL_len hm3)) (k := ?_)
    refine ZA 5 ?_
    refine Zd (view_SetMap tv d v1 m3 hv1 hm3 hr3 hp3) ?_
    refine Zw ?_
    refine ZE ?_
    refine Ws ?_
    refine Zla (cs := rootL a1 (h1 : Int)) ?_ (hl := by rfl)
    refine Ws ?_
    refine ZSg (ys := rootL a1 (h1 : Int)) ?_ (h1 := by exact two_int _ _) (hi := by exact (by decide : 2 + 2 ≤ 5))
    refine Zat (blk pt _ _) (blk pt 163 (txL pb tv a1 (h1 : Int) false)) ?_
    refine Zat (blk tv _ _) (blk tv 146 (viewL d (mapV v1 m3))) ?_
    refine Zat (DSK d _) (DSK d (mapV v1 m3).S) ?_
    refine Ws ?_
    exact Zfn [blk pt 163 (txL pb tv a1 (h1 : Int) false), blk pb 161 (baseL d pv s m op false), blk tv 146 (viewL d (mapV v1 m3)), DSK d (mapV v1 m3).S] (hq := by exact ⟨rfl, rfl⟩)
theorem tk_moved {S S' : DS} {k : Nat} {mu : Nat → Nat} : ∀ (h m : Nat) (a : Int), tkG S k mu h m a → (∀ p ∈ pgN S h a, ∀ lf, rdN S' (p : Int) lf = rdN S (p : Int) lf) → tkG S' k mu h m a ∧ wkE S' h a = wkE S h a ∧ pgN S' h a = pgN S h a
 | 0, _, _, g, _ => g.elim
 | h + 1, m, a, g, sm => by
  obtain ⟨⟨p, hp, hp2⟩, g1, g2, g3, g4, g5, g6⟩ := g
  have hr : rdN S' a (decide (h = 0)) = rdN S a (decide (h = 0)) := by
   have := sm p (by rw [pgN, hp]; exact List.mem_cons_self ..) (decide (h = 0))
   rw [hp]; exact this
  have ih := fun d (hd : d ∈ (rdN S a (decide (h = 0))).D) => tk_moved h (mu h) d (g5 d hd) (fun q hq => sm q (by
   rw [pgN]
   exact mCm _ (List.mem_flatMap.2 ⟨d, hd, hq⟩)))
  refine ⟨⟨⟨p, hp, hp2⟩, by rw [hr]; exact g1, by rw [hr]; exact g2, by rw [hr]; exact g3, by rw [hr]; exact g4, fun d hd => by rw [hr] at hd; exact (ih d hd).1, ?_⟩, ?_, ?_⟩
  ·rw [hr, g6]
   exact List.map_congr_left (fun d hd => by rw [headK, headK, (ih d hd).2.1])
  ·rw [wkE, wkE, hr, flat_congr (fun d hd => (ih d hd).2.1)]
  ·rw [pgN, pgN, hr, flat_congr (fun d hd => (ih d hd).2.2)]
theorem CM.perm {k : Nat} {S : DS} {s : SP} {m : BM} {U U' : List Nat} (c : CM k S s m U) (p : U.Perm U') : CM k S s m U' :=
 ⟨c.k8, c.on, c.len, c.W, c.sok, c.pages, c.gen, c.sup, c.old, inv_perm c.mok p, by
  obtain ⟨b, h1, h2, h3⟩ := c.bit
  exact ⟨b, h1, p.mem_iff.1 h2, h3⟩⟩
theorem cm_more {S : DS} {k : Nat} {s : SP} {m : BM} {U : List Nat} {b : Nat} (h8 : 8 ≤ k ∧ k ≤ 512) (hon : S.on) (hA : S.A.length = k * 256) (ok : okS s = true) (hb : s.bitmap = (b : Int)) (hi : Inv k m U) (hbU : b ∈ U) :
  (wrPg S (mpP s.bitmap s.gen m)).1.fl.1.on ∧ (wrPg S (mpP s.bitmap s.gen m)).1.fl.1.W.length = 0 ∧ (wrS (wrPg S (mpP s.bitmap s.gen m)).1.fl.1 s).1.on ∧ (wrS (wrPg S (mpP s.bitmap s.gen m)).1.fl.1 s).1.W.length ≤ 100 := by
 have hr := hi.rng b hbU
 have hok := mpP_ok (g := s.gen) (a := b) hi h8 (by omega)
 obtain ⟨a1, a2, a3, a4, a5⟩ := wrPg_on hon (q := mpP s.bitmap s.gen m) (a := b) (by rw [hb]; exact hok) hb (by rw [hA]; exact fitk hr.2)
 obtain ⟨b1, b2, b3, b4, b5⟩ := fl_on a2
 have h2A : (wrPg S (mpP s.bitmap s.gen m)).1.fl.1.A.length = k * 256 := by rw [b4, DS.V_length a2.1, a4, hA]
 obtain ⟨d1, d2, d3, d4, d5⟩ := wrS_on b2 (by omega) ok
 have h0 : (wrPg S (mpP s.bitmap s.gen m)).1.fl.1.W.length = 0 := by rw [b5]; rfl
 exact ⟨b2, h0, d2, by omega⟩
theorem spN_ok {k : Nat} {s : SP} {a : Int} {h t : Nat} (h8 : 8 ≤ k ∧ k ≤ 512) (hp : s.pages = (k : Int)) (ht : 2 ≤ t ∧ t < k) (h5 : h ≤ 5) (ha : h ≠ 0 → ∃ p : Nat, a = (p : Int) ∧ (2 ≤ p ∧ p < k) ∧ p ≠ t) : okS (spN s a h t) = true := by
 show (decide (s.gen + 1 ≠ 0) && (decide ((8 : Int) ≤ s.pages) && (decide (s.pages ≤ 512) && ((decide ((2 : Int) ≤ (t : Int)) && decide ((t : Int) < s.pages)) &&
  (if (h : Int) = 0 then decide ((if h = 0 then (0 : Int) else a) = 0) else decide ((0 : Int) < (h : Int)) && (decide ((h : Int) ≤ 5) && ((decide ((2 : Int) ≤ (if h = 0 then (0 : Int) else a)) && decide ((if h = 0 then (0 : Int) else a) < s.pages)) && decide ((if h = 0 then (0 : Int) else a) ≠ (t : Int))))))))) = true
 rw [hp, dTt (show s.gen + 1 ≠ 0 by omega), dTt (show (8 : Int) ≤ (k : Int) by omega), dTt (show (k : Int) ≤ 512 by omega), dTt (show (2 : Int) ≤ (t : Int) by omega), dTt (show (t : Int) < (k : Int) by omega)]
 by_cases h0 : h = 0
 ·rw [if_pos (by omega), if_pos h0]; rfl
 ·obtain ⟨p, hp1, hp2, hp3⟩ := ha h0
  rw [if_neg (by omega), if_neg h0, hp1, dTt (show (0 : Int) < (h : Int) by omega), dTt (show (h : Int) ≤ 5 by omega), dTt (show (2 : Int) ≤ (p : Int) by omega), dTt (show (p : Int) < (k : Int) by omega), dTt (show (p : Int) ≠ (t : Int) by omega)]
  rfl
theorem commit_spec {k : Nat} {mu : Nat → Nat} {S0 : DS} {s : SP} {m : BM} {b h0 : Nat} {E0 : List ENT} {v : VS} {a : Int} {h : Nat} {E : List ENT} (X : TXI k mu S0 s m b h0 E0 v a h E) (hW : v.S.W.length ≤ 600000) (hg : s.gen + 1 < 1000000000) :
  (∃ t m1 m2, CmG v s m m1 m2 a h t ∧ CMT k mu (cmS v.S (spN s a h t) m2) (spN s a h t) m2 t h E ∧ t ∉ bsU S0 s b h0 E0 ∧ ∀ x ∈ E, txE (cmS v.S (spN s a h t) m2) x = txE v.S x)
  ∨ (∃ m1, giveM v.m s.bitmap 1 = (m1, 0) ∧ m1.u.length = 512 ∧ (takeM m1 m 1).2.2 = 5 ∧ ¬ Fre k (pgN v.S h a ++ txs E) (bsU S0 s b h0 E0) 1) := by
 have hv := X.ti.vg
 have hk := hv.k8
 obtain ⟨m1, e1, i1⟩ := give_inv (inv_perm hv.m List.perm_middle) hk
 have hom : Inv k m (bsU S0 s b h0 E0) := by rw [← X.old]; exact hv.o
 have egv : giveM v.m s.bitmap 1 = (m1, 0) := by rw [X.c.bb]; exact e1
 rcases take_inv i1 hom hk with ⟨t, m2, e2, ht, htU, htO, i2⟩ | ⟨e5, hF⟩
 ·refine .inl ⟨t, m1, m2, ?_⟩
  have hpage : h ≠ 0 → ∃ p : Nat, a = (p : Int) ∧ (2 ≤ p ∧ p < k) ∧ p ≠ t := fun hne => by
   obtain ⟨p, p1, p2, l, p3⟩ := tk_page (X.ti.g.resolve_left hne)
   refine ⟨p, p1, p2, fun c => htU (mAl _ ?_)⟩
   rw [p3, c]; exact List.mem_cons_self ..
  obtain ⟨s', hs'⟩ : ∃ s', s' = spN s a h t := ⟨_, rfl⟩
  have ok : okS s' = true := by rw [hs']; exact spN_ok hk X.c.cm.pages ht X.ti.h5 hpage
  have hb' : s'.bitmap = (t : Int) := by rw [hs']; rfl
  have hg' : s'.gen = s.gen + 1 := by rw [hs']; rfl
  have hp' : s'.pages = (k : Int) := by rw [hs']; exact X.c.cm.pages
  have hh' : s'.height = (h : Int) := by rw [hs']; rfl
  have ha' : s'.addr = if h = 0 then 0 else a := by rw [hs']; rfl
  obtain ⟨q1, q2, q3, q4, qc, qp⟩ := cm_step X.c.cm hv.on X.A (fun p hp => (X.sm p (.inr hp)).1) ok hg' (by omega) hp' hb' i2 (List.mem_cons_self ..)
  obtain ⟨r1, r2, r3, r4⟩ := cm_more hk hv.on hv.len ok hb' i2 (List.mem_cons_self ..)
  obtain ⟨S', hS'⟩ : ∃ S', S' = cmS v.S s' m2 := ⟨_, rfl⟩
  have hSdef : cmS v.S s' m2 = (wrS (wrPg v.S (mpP s'.bitmap s'.gen m2)).1.fl.1 s').1.fl.1 := rfl
  rw [hb', hg'] at q1 q2 q3 q4 r1 r2 r3 r4
  have hpm : m2.p = (((cmS v.S s' m2).A.length / 256 : Nat) : Int) := by rw [qc.div]; exact i2.p
  have hvok : (⟨cmS v.S s' m2, s.gen + 1, m2, m2⟩ : VS).ok := (qc.view (s.gen + 1) (by omega)).ok
  have htx : ∀ x ∈ E, TxE (cmS v.S s' m2) x ∧ txE (cmS v.S s' m2) x = txE v.S x := fun x hx => by
   refine (X.tx x hx).same (by rw [qc.len, hv.len]) (fun p hp => ?_)
   have hmem : p ∈ txs E := List.mem_flatMap.2 ⟨x, hx, hp⟩
   have hr := i2.rng p (mCm _ (mAr _ hmem))
   exact qp p hr.1 hr.2 (fun c => htU (mAr _ (c ▸ hmem)))
  refine ⟨?_, ?_, htO, fun x hx => by rw [← hs']; exact (htx x hx).2⟩
  ·rw [hs'] at q3 q4 r3 r4 hpm hvok
   exact ⟨hv.ok, by omega, hom.len, i1.len, i2.len, by omega, egv, e2, q1, q2, r1.1, by omega, q3, r3.1, by omega, q4, hvok, i2.right hk, hpm⟩
  ·rw [← hs', ← hS']
   rw [← hS'] at qc qp
   have hrd : ∀ p ∈ pgN v.S h a, ∀ lf, rdN S' (p : Int) lf = rdN v.S (p : Int) lf := fun p hp lf => by
    have hr := i2.rng p (mCm _ (mAl _ hp))
    refine rdN_pg hv.on qc.on (by rw [qc.len, hv.len]) (by rw [hv.len]; exact fitk hr.2) (qp p hr.1 hr.2 (fun c => htU (mAl _ (c ▸ hp)))) lf
   have htree : (h = 0 ∨ tkG S' k mu h (rmin h) s'.addr) ∧ wkE S' h s'.addr = E ∧ pgN S' h s'.addr = pgN v.S h a := by
    rcases Nat.eq_zero_or_pos h with hz | hz
    ·subst hz
     exact ⟨.inl rfl, X.ti.ents, rfl⟩
    ·have hne : h ≠ 0 := by omega
     rw [ha', if_neg hne]
     obtain ⟨g1, g2, g3⟩ := tk_moved h (rmin h) a (X.ti.g.resolve_left hne) hrd
     exact ⟨.inr g1, by rw [g2]; exact X.ti.ents, g3⟩
   refine ⟨qc.perm ?_, hb', hh', htree.1, htree.2.1, X.ti.ord, X.ti.h5, fun x hx => by rw [hS']; exact (htx x hx).1⟩
   rw [bsU, htree.2.2]
   exact List.perm_middle.symm
 ·exact .inr ⟨m1, egv, i1.len, e5, hF⟩
def mkU : List Nat → List Bool
 | [] => List.replicate 512 false
 | p :: l => (mkU l).set p true
theorem mkU_len : ∀ l, (mkU l).length = 512
 | [] => List.length_replicate
 | p :: l => by rw [mkU, List.length_set]; exact mkU_len l
theorem mkU_use : ∀ (l : List Nat) (j : Nat), (∀ p ∈ l, p < 512) → (useAt (mkU l) j = true ↔ j ∈ l)
 | [], j, _ => by
  have : useAt (mkU []) j = false := by
   show (List.replicate 512 false).getD j false = false
   rw [gDe, List.getElem?_replicate]
   split <;> rfl
  rw [this]; simp
 | p :: l, j, h => by
  rw [mkU, useAt_set _ _ _ _ (by rw [mkU_len]; exact h p (List.mem_cons_self ..))]
  by_cases e : j = p
  ·rw [if_pos e, e]; simp
  ·rw [if_neg e, mkU_use l j (fun q hq => h q (mCm _ hq))]
   simp [e]
def mkT (W : List Nat) (j : Nat) : List Bool := mkU (W.take j).reverse
theorem mkT_len (W : List Nat) (j : Nat) : (mkT W j).length = 512 := mkU_len _
theorem mkT_succ {W : List Nat} {j p : Nat} (h : W[j]? = some p) : (mkT W j).set p true = mkT W (j + 1) := by
 rw [mkT, mkT, List.take_add_one, h]
 simp [mkU]
theorem mkT_no {W : List Nat} {j p : Nat} (hn : W.Nodup) (h5 : ∀ p ∈ W, p < 512) (h : W[j]? = some p) : useAt (mkT W j) p = false := by
 cases hu : useAt (mkT W j) p with
 | false => rfl
 | true =>
  have hm := (mkU_use _ p (fun q hq => h5 q (List.mem_of_mem_take (List.mem_reverse.1 hq)))).1 hu
  rw [List.mem_reverse] at hm
  obtain ⟨i, hi, hp⟩ := List.getElem_of_mem hm
  rw [lTk] at hi
  have hj := (List.getElem?_eq_some_iff.1 h)
  obtain ⟨hj1, hj2⟩ := hj
  rw [List.getElem_take] at hp
  exact (List.pairwise_iff_getElem.1 hn i j (by omega) hj1 (by omega) (hp.trans hj2.symm)).elim
theorem mkT_get {W : List Nat} {j p : Nat} (hp : p < 512) : (mkT W j)[p]? = some (useAt (mkT W j) p) := by
 rw [useAt, gDe, gEe (by rw [mkT_len]; exact hp)]; rfl
def sndW (b : Nat) (zs : List Nat) (E : List ENT) : List Nat := 0 :: 1 :: b :: (zs ++ txs E)
theorem CMT.snd {k : Nat} {mu : Nat → Nat} {S : DS} {s : SP} {m : BM} {b h : Nat} {E : List ENT} (c : CMT k mu S s m b h E) {zs : List Nat} (hz : zs.Perm (pgN S h s.addr)) :
  (sndW b zs E).Nodup ∧ (∀ p ∈ sndW b zs E, p < 512) ∧ mkT (sndW b zs E) (sndW b zs E).length = m.u ∧ freeM m + (sndW b zs E).length = k := by
 have hi := c.cm.mok
 have hk := c.cm.k8
 have hp : (b :: (zs ++ txs E)).Perm (bsU S s b h E) := by
  rw [bsU]
  exact (List.Perm.cons b (List.Perm.append_right _ hz)).trans List.perm_middle.symm
 have hmem : ∀ p, p ∈ sndW b zs E ↔ (p < 2 ∨ p ∈ bsU S s b h E) := fun p => by
  show p ∈ 0 :: 1 :: (b :: (zs ++ txs E)) ↔ _
  rw [List.mem_cons, List.mem_cons, hp.mem_iff]
  constructor
  ·rintro (h | h | h)
   ·exact .inl (by omega)
   ·exact .inl (by omega)
   ·exact .inr h
  ·rintro (h | h)
   ·rcases (show p = 0 ∨ p = 1 by omega) with q | q
    ·exact .inl q
    ·exact .inr (.inl q)
   ·exact .inr (.inr h)
 have hlt : ∀ p ∈ sndW b zs E, p < 512 := fun p hp2 => by
  rcases (hmem p).1 hp2 with q | q
  ·omega
  ·have := (hi.rng p q).2; omega
 have hnd : (sndW b zs E).Nodup := by
  have h1 := hp.nodup_iff.2 hi.nodup
  have hno : ∀ q, q < 2 → q ∉ b :: (zs ++ txs E) := fun q hq c2 => by
   have := (hi.rng q (hp.mem_iff.1 c2)).1; omega
  refine List.nodup_cons.2 ⟨fun c2 => ?_, List.nodup_cons.2 ⟨hno 1 (by omega), h1⟩⟩
  rcases List.mem_cons.1 c2 with q | q
  ·cases q
  ·exact hno 0 (by omega) q
 refine ⟨hnd, hlt, ?_, ?_⟩
 ·apply List.ext_getElem?
  intro j
  by_cases hj : j < 512
  ·rw [mkT_get hj]
   have e : m.u[j]? = some (useAt m.u j) := by
    rw [useAt, gDe, gEe (by rw [hi.len]; exact hj)]; rfl
   rw [e]
   congr 1
   have h1 := mkU_use ((sndW b zs E).take (sndW b zs E).length).reverse j (fun q hq => hlt q (List.mem_of_mem_take (List.mem_reverse.1 hq)))
   rw [List.mem_reverse, List.take_length, hmem j, ← hi.use j] at h1
   rw [mkT, List.take_length]
   exact Bool.eq_iff_iff.2 h1
  ·rw [List.getElem?_eq_none (by rw [mkT_len]; omega), List.getElem?_eq_none (by rw [hi.len]; omega)]
 ·have hl : (sndW b zs E).length = 2 + (bsU S s b h E).length := by
   show (b :: (zs ++ txs E)).length + 1 + 1 = _
   rw [hp.length_eq]; omega
  have := hi.free
  omega
theorem sndW_z {b : Nat} {zs : List Nat} {E : List ENT} {i : Nat} {p : Nat} (h : zs[i]? = some p) : (sndW b zs E)[3 + i]? = some p := by
 rw [show 3 + i = i + 1 + 1 + 1 by omega]
 show (zs ++ txs E)[i]? = some p
 rw [List.getElem?_append_left (List.getElem?_eq_some_iff.1 h).1, h]
theorem txs_at {E : List ENT} {j x : Nat} (hj : j < E.length) (hx : x < nE (E.getD j ent0)) : (txs E)[(txs (E.take j)).length + x]? = some ((E.getD j ent0).addr.toNat + x) := by
 have e : E = E.take j ++ E.getD j ent0 :: E.drop (j + 1) := by
  conv => lhs; rw [← List.take_append_drop j E, List.drop_eq_getElem_cons hj]
  rw [gDe, gEe hj]; rfl
 have e2 : txs E = txs (E.take j) ++ (txP (E.getD j ent0) ++ txs (E.drop (j + 1))) := by
  conv => lhs; rw [e]
  rw [txs, List.flatMap_append, List.flatMap_cons]; rfl
 rw [e2, List.getElem?_append_right (by omega), Nat.add_sub_cancel_left, List.getElem?_append_left (by rw [txP, runL, List.length_range']; exact hx), txP, runL, List.getElem?_range' hx]
 simp
theorem sndW_t {b : Nat} {zs : List Nat} {E : List ENT} {j x : Nat} (hj : j < E.length) (hx : x < nE (E.getD j ent0)) : (sndW b zs E)[3 + zs.length + (txs (E.take j)).length + x]? = some ((E.getD j ent0).addr.toNat + x) := by
 rw [show 3 + zs.length + (txs (E.take j)).length + x = (zs.length + ((txs (E.take j)).length + x)) + 1 + 1 + 1 by omega]
 show (zs ++ txs E)[zs.length + ((txs (E.take j)).length + x)]? = _
 rw [List.getElem?_append_right (by omega), Nat.add_sub_cancel_left]
 exact txs_at hj hx
theorem txs_take_len {E : List ENT} {j : Nat} (hj : j < E.length) : (txs (E.take (j + 1))).length = (txs (E.take j)).length + nE (E.getD j ent0) := by
 rw [List.take_add_one, gEe hj]
 have e : E.getD j ent0 = E[j] := by rw [gDe, gEe hj]; rfl
 rw [e, txs, txs, List.flatMap_append, lAp]
 simp [txP, runL]
theorem sndW_len (b : Nat) (zs : List Nat) (E : List ENT) : (sndW b zs E).length = 3 + zs.length + (txs E).length := by
 show (zs ++ txs E).length + 1 + 1 + 1 = _
 rw [lAp]; omega
theorem perm_nat {ys : List Int} {P : List Nat} (h : ys.Perm (P.map (fun p : Nat => (p : Int)))) : ∃ zs : List Nat, ys = zs.map (fun p : Nat => (p : Int)) ∧ zs.Perm P := by
 refine ⟨ys.map Int.toNat, ?_, ?_⟩
 ·rw [List.map_map]
  have : ∀ y ∈ ys, ((fun p : Nat => (p : Int)) ∘ Int.toNat) y = y := fun y hy => by
   obtain ⟨p, _, rfl⟩ := List.mem_map.1 (h.mem_iff.1 hy)
   show (((p : Int).toNat : Nat) : Int) = p
   omega
  conv => lhs; rw [← List.map_id' ys]
  exact (List.map_congr_left (fun y hy => (this y hy))).symm
 ·have := h.map Int.toNat
  rw [List.map_map] at this
  have e : P.map (Int.toNat ∘ fun p : Nat => (p : Int)) = P := by
   conv => rhs; rw [← List.map_id' P]
   exact List.map_congr_left (fun p _ => by show ((p : Int)).toNat = p; omega)
  rwa [e] at this
theorem bytes_Equal (u v : Value) (a b : List UInt8) : SpecR Tryz.prog 135 #[u, v] (fun w => RdW w u a.length (B8 a) ∧ RdW w v b.length (B8 b)) (fun r H' => r = .bool (decide (a = b)) ∧ H' = []) := by
 refine SpecR.of (fun w hh => ?_)
 refine Calls.enter Tryz.func135 rfl rfl rfl (St.rebase w) ?_
 simp only [argSlots]
 refine Ws ?_
 refine Zbs (l := a) ?_ (he := by exact Tryz.underlying5) (hr := by exact rdw_ex Wp hh.1)
 refine Ws ?_
 refine Zbs (l := b) ?_ (he := by exact Tryz.underlying5) (hr := by exact rdw_ex Wp hh.2)
 refine Ws ?_
 exact Zfr (hq := by simp only [tupled]; (rw [bytes_eq]))
theorem bm_Get (v : Value) (l : List UInt8) : SpecR Tryz.prog 89 #[v] (fun w => RdW w v l.length (B8 l)) (fun r H' => r = .tuple #[bmV (getM l).1, .int .i64 ((getM l).2 : Int)] ∧ H' = []) := by
 refine SpecR.of (fun w hr => ?_)
 have hlen := hr.le
 refine Calls.enter Tryz.func89 rfl rfl rfl (St.rebase w) ?_
 simp only [argSlots]
 refine Ws ?_
 refine Zal fun br => ?_
 refine Ws ?_
 refine Zlr2 (hr := hr) ?_
 refine Ws ?_
 (refine Wcd ?_ ?_ <;> intro h1)
 ·refine Ws ?_
  refine ZSa ?_ (hl := by exact z513) (hc := by exact z513) (h1 := by exact z_one)
  refine Ws ?_
  exact Zfr (h := ResL.cons (Zra z513) (ResL.cons (Res1.tmp rfl) (ResL.nil))) (hq := by simp only [tupled]; (rw [getM, if_pos (by omega), bmV_zero]; rfl))
 ·have hl2 : 2 ≤ l.length := by omega
  refine Ws ?_
  refine Wm [Ex (hp w)] ?_
  refine Wq [0] ?_
  refine Zm 1 (h := fun _ _ qK => by exact Zir (hr := hr) (j := 0) qK (hj := by rfl) (hlt := by omega) (hl := by rw [B8_length]; omega)) (k := ?_)
  refine Zm 2 (h := fun _ _ qK => by exact Zlr (hr := hr) (v := .int .u8 ((l.getD 0 0).toNat : Int)) qK (hv := by rw [B8_get l _ (by omega), gDe, gEe (by omega)]; rfl)) (k := ?_)
  refine Wq [3, 4, 5] ?_
  refine Zm 6 (h := fun _ _ qK => by exact Zir (hr := hr) (j := 1) qK (hj := by rfl) (hlt := by omega) (hl := by rw [B8_length]; omega)) (k := ?_)
  refine Zm 7 (h := fun _ _ qK => by exact Zlr (hr := hr) (v := .int .u8 ((l.getD 1 0).toNat : Int)) qK (hv := by rw [B8_get l _ (by omega), gDe, gEe (by omega)]; rfl)) (k := ?_)
  refine Wq [8, 9] ?_
  refine Zm 10 (h := fun _ _ qK => by exact Zbu qK (hf := by exact fill_map _)) (k := ?_)
  refine ZA 11 ?_
  refine Zal fun bm => ?_
  refine Zw ?_
  refine ZA 12 ?_
  refine ZSa ?_ (hl := by exact bmL_length _ List.length_replicate) (hc := by exact z513) (h1 := by exact bmL_one _)
  refine Zw ?_
  refine ZE ?_
  have hw8 : ∀ x : UInt8, IntKind.i64.wrap (x.toNat : Int) = (x.toNat : Int) := fun x => IntWalk.i64_in _ (by have := x.toNat_lt; omega)
  have hg0 : gotTo l 0 = List.replicate 512 false := by simp only [gotTo, List.range_zero, List.map_nil, nAp, Nat.sub_zero]
  refine Zat (blk bm _ _) (blk bm 60 (bmL ⟨pagesOf l, gotTo l 0⟩)) ?_ (e := by rw [hg0, hw8, hw8, or_pages]; rfl)
  refine Ws ?_
  (refine Wl (α := { i : Nat // i ≤ 512 }) (fun x => 512 - x.1) (fun x => [(0, v), (2, .pointer (some ⟨br, 0, none⟩)), (4, .pointer (some ⟨bm, 0, none⟩)), (22, .int .i64 (x.1 : Int))]) (fun x => [blk bm 60 (bmL ⟨pagesOf l, gotTo l x.1⟩), blk br 60 ([.int .i64 0] ++ List.replicate 512 (.bool false)), Ex (hp w)]) ⟨0, Nat.zero_le _⟩ ?_; rintro ⟨i, hi⟩ mx hmx; (try dsimp only at hmx ⊢))
  have hgl := gotTo_length l i hi
  refine Ws ?_
  (refine Wcd ?_ ?_ <;> intro h2)
  ·have hi' : i < 512 := by omega
   refine Ws ?_
   (refine ZcB 32 ?_ ?_ <;> intro h3)
   ·have h3' : (i : Int) < (pagesOf l : Int) := of_decide_eq_true h3
    refine Ws ?_
    refine Zlr2 (hr := hr) ?_
    refine Ws ?_
    (refine Wcd ?_ ?_ <;> intro h4)
    ·have hb : 2 + i / 8 < l.length := by omega
     have hga : gotAt l i = bit8 (l.getD (2 + i / 8) 0) (i % 8) := by
      rw [gotAt, dTt (show i < pagesOf l by omega), dTt hb]; rfl
     refine Ws ?_
     refine Zir (hr := hr) (j := 2 + i / 8) ?_ (hj := by omega) (hlt := by exact hb) (hl := by rw [B8_length]; omega)
     refine Ws ?_
     refine Zlr (hr := hr) (v := .int .u8 ((l.getD (2 + i / 8) 0).toNat : Int)) ?_ (hv := by rw [Nat.mul_one, B8_get l _ hb, gDe, gEe hb]; rfl)
     refine Ws ?_
     refine Zz 47 (gotAt l i) ?_ (hi := by rw [hga]; rfl)
     refine ZS ?_ (hi := by rw [bmL_length _ hgl]; omega)
     refine Zat (blk bm _ _) (blk bm 60 (bmL ⟨pagesOf l, gotTo l (i + 1)⟩)) ?_ (e := by rw [off_set]; simp only [gotTo_set l i hi'])
     refine Ws ?_
     exact Zag ⟨i + 1, by omega⟩
    ·have hga : gotAt l i = false := by
      rw [gotAt, dFf (show ¬ 2 + i / 8 < l.length by omega), Bool.and_false, if_neg (by simp)]
     refine Ws ?_
     refine Zat (blk bm _ _) (blk bm 60 (bmL ⟨pagesOf l, gotTo l (i + 1)⟩)) ?_ (e := by rw [gotTo_skip l i hi' hga])
     exact Zag ⟨i + 1, by omega⟩
   ·have h3' : ¬ (i : Int) < (pagesOf l : Int) := of_decide_eq_false h3
    have hga : gotAt l i = false := by
     rw [gotAt, dFf (show ¬ i < pagesOf l by omega), Bool.false_and, if_neg (by simp)]
    refine Ws ?_
    refine Zat (blk bm _ _) (blk bm 60 (bmL ⟨pagesOf l, gotTo l (i + 1)⟩)) ?_ (e := by rw [gotTo_skip l i hi' hga])
    exact Zag ⟨i + 1, by omega⟩
  ·have e : i = 512 := by omega
   subst e
   refine Zat (blk bm _ _) (blk bm 60 (bmL (gotM l))) ?_
   have hgm : (gotM l).u.length = 512 := hgl
   refine Ws ?_
   refine Zla ?_ (hl := by exact bmL_length _ hgm)
   refine Ws ?_
   refine Zcv (bm_Right (gotM l) hgm) ?_
   refine Ws ?_
   (refine ZcB 54 ?_ ?_ <;> intro h5)
   ·refine Ws ?_
    refine ZSa ?_ (hl := by exact z513) (hc := by exact z513) (h1 := by exact z_one)
    refine Ws ?_
    exact Zfr (h := ResL.cons (Zra z513) (ResL.cons (Res1.tmp rfl) (ResL.nil))) (hq := by simp only [tupled]; (rw [getM, if_neg (by omega), if_neg (by intro hh; rw [hh.1] at h5; cases h5), bmV_zero]; rfl))
   ·have hri : rightM (gotM l) = true := by cases hq : rightM (gotM l) <;> simp [hq] at h5 ⊢
    refine Ws ?_
    refine Zla ?_ (hl := by exact bmL_length _ hgm)
    refine Ws ?_
    refine Zcr (bm_Put (gotM l) hgm) ?_
    rintro vp Hp rfl
    refine Ws ?_
    refine Zcv (bytes_Equal vp v (putM (gotM l)) l) ?_ (hpre := by exact fun w' hw' => ⟨rdw_own Wp w' hw', rdw_ex Wp hr w' hw'⟩)
    refine Ws ?_
    (refine Wcb ?_ ?_ <;> intro h6)
    ·have hne : ¬ putM (gotM l) = l := by intro e; simp [e] at h6
     refine Ws ?_
     refine ZSa ?_ (hl := by exact z513) (hc := by exact z513) (h1 := by exact z_one)
     refine Ws ?_
     exact Zfr (h := ResL.cons (Zra z513) (ResL.cons (Res1.tmp rfl) (ResL.nil))) (hq := by simp only [tupled]; (rw [getM, if_neg (by omega), if_neg (fun hh => hne hh.2), bmV_zero]; rfl))
    ·have heq : putM (gotM l) = l := by
      by_cases e : putM (gotM l) = l
      ·exact e
      ·simp [e] at h6
     refine Ws ?_
     refine Zla ?_ (hl := by exact bmL_length _ hgm)
     refine Ws ?_
     refine ZSa ?_ (hl := by exact bmL_length _ hgm) (hc := by exact z513) (h1 := by exact bmL_one _)
     refine Ws ?_
     exact Zfr (h := ResL.cons (Zra (bmL_length _ hgm)) (ResL.cons (Res1.tmp rfl) (ResL.nil))) (hq := by simp only [tupled]; (rw [getM, if_neg (by omega), if_pos ⟨hri, heq⟩]; rfl))
theorem z513f : (Value.int .i64 0 :: List.replicate 512 (Value.bool false)).length = 513 := by rw [lCn, List.length_replicate]
theorem txn_Mount {k : Nat} {S : DS} {s : SP} {m : BM} {U : List Nat} (d : Nat) (c : CM k S s m U) :
  Gv.Spec Tryz.prog 37 #[.pointer (some ⟨d, 0, none⟩)] [DSK d S]
  (fun r H' => ∃ pb pv, r = .tuple #[.pointer (some ⟨pb, 0, none⟩), .int .i64 0] ∧ H' = [blk pb 161 (baseL d pv s m false false), blk pv 146 (viewL d ⟨S, s.gen, m, m⟩), DSK d S]) := by
 refine Gv.Spec.of (fun w h0 hw => ?_)
 refine Calls.enter Tryz.func37 rfl rfl rfl hw ?_
 simp only [argSlots]
 refine Wap ?_
 have hgen := c.gen
 have hok : S.ok := c.on.1
 have hWl : S.W.length = 0 := by rw [c.W]; rfl
 have hnw := super_Newest d S hok (by omega)
 rw [c.newest] at hnw
 have hbs := okS_spec c.sok
 have hrd := page_Read d S s.bitmap 66 hok (by omega) (by omega)
 rw [c.map] at hrd
 have hbl : (mpP s.bitmap s.gen m).b = putM m := rfl
 dsimp only at hrd hnw
 rw [hbl] at hrd
 have hrm := c.mok.right c.k8
 have hml := c.mok.len
 have hvk : (⟨S, s.gen, m, m⟩ : VS).ok := (c.view s.gen (by omega)).ok
 have hpp : m.p = ((S.A.length / 256 : Nat) : Int) := by rw [c.div]; exact c.mok.p
 have hba := txn_based d S s m hvk hrm hpp
 refine Ws ?_
 refine Zz 10 false ?_
 refine Ws ?_
 refine Zcv crc_New ?_
 refine Ws ?_
 refine Zal fun b4 => ?_
 refine Ws ?_
 refine ZSa (ys := tabL) ?_ (hl := by exact tabL_length) (hc := by exact List.length_replicate) (h1 := by exact tabL_one)
 refine Ws ?_
 refine Zla (cs := tabL) ?_ (hl := by exact tabL_length)
 refine Ws ?_
 refine Zd hnw ?_
 refine Ws ?_
 refine Zal fun b5 => ?_
 refine Ws ?_
 refine ZSa (ys := spL s) ?_ (h1 := by exact spL_one s)
 refine Ws ?_
 refine Zz 19 false ?_
 refine Ws ?_
 refine Zla (cs := tabL) ?_ (hl := by exact tabL_length)
 refine Ws ?_
 refine Zcs hrd ?_
 rintro r2 H2 ⟨A, cc, rfl, rfl⟩
 refine Wap ?_
 refine Ws ?_
 refine Zal fun b7 => ?_
 refine Ws ?_
 refine ZSa (ys := pgL (mpP s.bitmap s.gen m) (.slice A (putM m).length cc)) ?_ (h1 := by exact pgL_one _ A _ cc)
 refine Ws ?_
 refine Zz 30 false ?_
 refine Ws ?_
 have hgt := bm_Get (.slice A (putM m).length cc) (putM m)
 rw [got_back hml hrm] at hgt
 dsimp only at hgt
 refine Zcv hgt ?_ (hpre := by exact rdw_own (v := .slice A (putM m).length cc) Wp)
 refine Ws ?_
 refine Zal fun b8 => ?_
 refine Ws ?_
 refine ZSa (ys := bmL m) ?_ (hl := by exact bmL_len hml) (hc := by exact z513f) (h1 := by exact bmL_one _)
 refine Ws ?_
 refine Zz 39 false ?_
 refine Ws ?_
 refine Zla (cs := tabL) ?_ (hl := by exact tabL_length)
 refine Ws ?_
 refine Zla (cs := spL s) ?_ (hl := by rfl)
 refine Ws ?_
 refine Zla (cs := bmL m) ?_ (hl := by exact bmL_len hml)
 refine Ws ?_
 refine Zcs hba ?_
 rintro r3 H3 ⟨pb, pv, rfl, rfl⟩
 refine Wap ?_
 refine Ws ?_
 exact Zfn [blk pb 161 (baseL d pv s m false false), blk pv 146 (viewL d ⟨S, s.gen, m, m⟩), DSK d S] (hq := by exact ⟨pb, pv, rfl, rfl⟩)
theorem z256_B8 : B8 z256 = List.replicate 256 (.int .u8 0) := by rw [B8, z256, List.map_replicate]; rfl
set_option maxRecDepth 4000 in
theorem txn_Format (d k : Nat) (h : 8 ≤ k ∧ k ≤ 512) :
  Gv.Spec Tryz.prog 29 #[.pointer (some ⟨d, 0, none⟩)] [DSK d (DS.new k)]
  (fun r H' => ∃ pb pv, r = .tuple #[.pointer (some ⟨pb, 0, none⟩), .int .i64 0] ∧ H' = [blk pb 161 (baseL d pv (spF k) (fm1 k) false false), blk pv 146 (viewL d ⟨fmS k, 1, fm1 k, fm1 k⟩), DSK d (fmS k)]) := by
 obtain ⟨tk, len, rm, e1, o1, l1, e2, o2, l2, e3, o3, l3, e4, o4, l4, e5, cm⟩ := fm_spec h
 refine Gv.Spec.of (fun w h0 hw => ?_)
 refine Calls.enter Tryz.func29 rfl rfl rfl hw ?_
 simp only [argSlots]
 refine Wap ?_
 have hnk := DS.new_ok k h.2
 have hPg := disk_PagesD d (DS.new k) hnk
 have hdv : (DS.new k).A.length / 256 = k := by rw [DS.new_len, Nat.mul_div_cancel _ (by decide : 0 < 256)]
 rw [hdv] at hPg
 have hbk := bm_Take (newM (k : Int)) (newM (k : Int)) 1 (newM_length _) (newM_length _)
 rw [tk] at hbk
 have hpl : (putM (fm1 k)).length ≤ 1000000 := by
  have hr := rightM_spec rm
  rw [putM, if_pos rm, putTo_length]; omega
 have hwm := txn_writeMap d (DS.new k) 2 1 (fm1 k) len (by decide) hnk (Nat.zero_le _) hpl
 have eA : wrPg (DS.new k) (mpP 2 1 (fm1 k)) = fmA k := rfl
 rw [eA] at hwm
 have hf1 := disk_FlushD d (fmA k).1 o1 (by omega)
 have eB : (fmA k).1.fl = fmB k := rfl
 rw [eB] at hf1
 have hsw := super_Write d (fmB k).1 (spF k) (by show 1 < 18446744073709551616; decide) o2 (by omega)
 have eC : wrS (fmB k).1 (spF k) = fmC k := rfl
 rw [eC] at hsw
 have hf2 := disk_FlushD d (fmD k).1 o4 (by omega)
 have eS : (fmD k).1.fl.1 = fmS k := rfl
 rw [eS] at hf2
 have hba := txn_based d (fmS k) (spF k) (fm1 k) (cm.view 1 (by decide)).ok rm (by rw [cm.div]; exact cm.mok.p)
 have hk1 : (1 : Int) = ((1 : Nat) : Int) := rfl
 refine Ws ?_
 refine Zz 15 false ?_
 refine Ws ?_
 refine Zcv crc_New ?_
 refine Ws ?_
 refine Zal fun b4 => ?_
 refine Ws ?_
 refine ZSa (ys := tabL) ?_ (hl := by exact tabL_length) (hc := by exact List.length_replicate) (h1 := by exact tabL_one)
 refine Ws ?_
 refine Zd hPg ?_
 refine Ws ?_
 refine Zcv (bm_New (k : Int)) ?_
 refine Ws ?_
 refine Zd hPg ?_
 refine Ws ?_
 refine Zcv (bm_New (k : Int)) ?_
 refine Ws ?_
 refine Zcv hbk ?_
 refine Ws ?_
 refine Zal fun b5 => ?_
 refine Ws ?_
 refine ZSa (ys := bmL (fm1 k)) ?_ (hl := by exact bmL_len len) (hc := by exact z513f) (h1 := by exact bmL_one _)
 refine Ws ?_
 refine Zz 29 false ?_
 refine Ws ?_
 refine Zd hPg ?_
 refine Ws ?_
 refine Zbu (ys := spL (spF k)) ?_
 refine Ws ?_
 refine Zal fun b8 => ?_
 refine Ws ?_
 refine ZSa (ys := spL (spF k)) ?_ (h1 := by exact spL_one _)
 refine Ws ?_
 refine Zla (cs := tabL) ?_ (hl := by exact tabL_length)
 refine Ws ?_
 refine Zla (cs := bmL (fm1 k)) ?_ (hl := by exact bmL_len len)
 refine Ws ?_
 refine Zi 39 ((1 : Nat) : Int) ?_ (hi := by rfl)
 refine Zd hwm ?_
 refine Ws ?_
 refine Zz 43 false ?_ (hi := by rw [e1]; rfl)
 refine Ws ?_
 refine Zd hf1 ?_
 refine Ws ?_
 refine Zz 48 false ?_ (hi := by rw [e2]; rfl)
 refine Ws ?_
 refine Zla (cs := tabL) ?_ (hl := by exact tabL_length)
 refine Ws ?_
 refine Zla (cs := spL (spF k)) ?_ (hl := by rfl)
 refine Ws ?_
 refine Zd hsw ?_
 refine Ws ?_
 refine Zz 55 false ?_ (hi := by rw [e3]; rfl)
 refine Ws ?_
 refine Zomake1 (m := 256) ?_ (hi := by rfl) (hj := by rfl)
 intro bz
 refine Tri.open (A := blk bz 5 (List.replicate 256 (.int .u8 0))) Wp (fun h2 hb2 => ?_)
 have hrd : Rd h2 (.slice (some ⟨bz, 0, none⟩) 256 256) z256.length (B8 z256) := by
  rw [z256_B8, z256_len]
  exact blk_Rd hb2 ⟨Nat.le_refl _, by decide⟩ (by rw [List.length_replicate, List.take_of_length_le (by rw [List.length_replicate]; exact Nat.le_refl _)])
 have hwr := page_WriteRaw d (fmC k).1 0 (.slice (some ⟨bz, 0, none⟩) 256 256) z256 h2 hrd o3 (by rw [z256_len]; decide) (by rw [z256_len]; omega) (by decide)
 have eD : (fmC k).1.wrs (0 * 4) (secs (padB z256) ((padB z256).length / 64)) = fmD k := rfl
 rw [eD] at hwr
 refine Ws ?_
 refine Zd hwr ?_
 refine Ws ?_
 refine Zz 61 false ?_ (hi := by rw [e4]; rfl)
 refine Ws ?_
 refine Zd hf2 ?_
 refine Ws ?_
 refine Zz 66 false ?_ (hi := by rw [e5]; rfl)
 refine Ws ?_
 refine Zla (cs := tabL) ?_ (hl := by exact tabL_length)
 refine Ws ?_
 refine Zla (cs := spL (spF k)) ?_ (hl := by rfl)
 refine Ws ?_
 refine Zla (cs := bmL (fm1 k)) ?_ (hl := by exact bmL_len len)
 refine Ws ?_
 refine Zcs hba ?_
 rintro r9 H9 ⟨pb, pv, rfl, rfl⟩
 refine Wap ?_
 refine Ws ?_
 exact Zfn [blk pb 161 (baseL d pv (spF k) (fm1 k) false false), blk pv 146 (viewL d ⟨fmS k, 1, fm1 k, fm1 k⟩), DSK d (fmS k)] (hq := by exact ⟨pb, pv, rfl, rfl⟩)
theorem sum_groups {α : Type} {C : α → Nat} : ∀ gs : List (List α), (gs.map fun g => 1 + (g.map C).sum).sum = gs.length + (gs.flatten.map C).sum
 | [] => rfl
 | g :: gs => by rw [List.map_cons, List.sum_cons, sum_groups gs, lCn, List.flatten_cons, List.map_append, List.sum_append]; omega
theorem cut_len {f : Int → List ENT} {D : List Int} {N m : Nat} (hs : ∀ (i : Nat) (d : Int), D[i]? = some d → (f d).length = min N (m - i * N)) (lo hi : Nat) (h1 : lo ≤ hi) (h2 : hi ≤ D.length) : ((cutL D lo hi).flatMap f).length = min (hi * N) m - min (lo * N) m := by
 have e : D.take hi = D.take lo ++ cutL D lo hi := by
  rw [← List.take_append_drop lo (D.take hi), List.take_take, Nat.min_eq_left h1, List.drop_take, cutL]
 have a := pre_len hs hi h2
 rw [e, List.flatMap_append, lAp, pre_len hs lo (by omega)] at a
 omega
theorem group_len {N m n j : Nat} (hN : 0 < N) (hn : n = (m + N - 1) / N) (hj : j * 16 < n) : min (min (j * 16 + 16) n * N) m - min (j * 16 * N) m = min (N * 16) (m - j * (N * 16)) := by
 have eA : j * (N * 16) = j * 16 * N := by rw [Nat.mul_comm N 16, Nat.mul_assoc]
 have e1 : (j * 16 + 16) * N = j * 16 * N + N * 16 := by rw [Nat.add_mul, Nat.mul_comm 16 N]
 have hle : m ≤ n * N := by
  have h1 := Nat.div_add_mod (m + N - 1) N
  have h2 := Nat.mod_lt (m + N - 1) hN
  rw [← hn, Nat.mul_comm] at h1
  omega
 have hlt : j * 16 * N < m := by
  have h1 : (j * 16 + 1) * N ≤ m + N - 1 := Nat.le_trans (Nat.mul_le_mul_right N hj) (by rw [hn]; exact Nat.div_mul_le_self _ _)
  rw [Nat.add_mul, Nat.one_mul] at h1
  omega
 rw [eA]
 by_cases hb : j * 16 + 16 ≤ n
 ·rw [Nat.min_eq_left hb, e1]
  generalize j * 16 * N = Y at *
  omega
 ·have hmin : min (j * 16 + 16) n = n := by omega
  rw [hmin]
  have h3 : n * N ≤ (j * 16 + 16) * N := Nat.mul_le_mul_right N (by omega)
  rw [e1] at h3
  generalize j * 16 * N = Y at *
  generalize n * N = Z at *
  omega
theorem Lev.step {l : List ENT} {h c : Nat} {v : VS} {xs : List ND3} (L : Lev l h c v xs) (hl : loadOk l) (hx : 2 ≤ xs.length) (hc : c + xs.length ≤ 200) :
  (unN (decide (h = 0)) v xs).2.2 = 0 ∧ Lev l (h + 1) (c + xs.length) (unN (decide (h = 0)) v xs).1 (chunkN (unN (decide (h = 0)) v xs).2.1) ∧ (unN (decide (h = 0)) v xs).2.1.D.length = xs.length := by
 have hrise := rise_of hl
 obtain ⟨v', e, hvc, hrd, hag⟩ := VC.go (leaf := decide (h = 0)) xs L.vc L.c2 hc (fun x hx => ⟨(L.ok x hx).1, (L.ok x hx).2.1, (L.ok x hx).2.2.1⟩)
 obtain ⟨n, hn⟩ : ∃ n, n = xs.length := ⟨_, rfl⟩
 rw [← hn] at hc hx hvc e ⊢
 obtain ⟨D, hD⟩ : ∃ D, D = (List.range n).map (fun i => ((c + i : Nat) : Int)) := ⟨_, rfl⟩
 obtain ⟨Ks, hK⟩ : ∃ Ks, Ks = xs.map (least3 (decide (h = 0))) := ⟨_, rfl⟩
 obtain ⟨N, hN⟩ : ∃ N, N = capN h := ⟨_, rfl⟩
 obtain ⟨m, hm⟩ : ∃ m, m = l.length := ⟨_, rfl⟩
 have hNp : 0 < N := by rw [hN]; exact capN_pos h
 rw [← hD] at e
 have hun : unN (decide (h = 0)) v xs = (v', ⟨[], Ks, D⟩, 0) := by rw [unN, e]; simp only [if_true, hK]
 rw [hun]
 have hDl : D.length = n := by rw [hD]; simp
 have hKl : Ks.length = n := by rw [hK, hn]; simp
 have hDg : ∀ i, i < n → D[i]? = some ((c + i : Nat) : Int) := fun i hi => by rw [hD, List.getElem?_map, List.getElem?_range hi]; rfl
 have hlt : ∀ {i : Nat} {d : Int}, D[i]? = some d → i < n := fun hi => by have := (List.getElem?_eq_some_iff.1 hi).1; omega
 have hxg : ∀ i, i < n → ∃ x, xs[i]? = some x := fun i hi => ⟨_, gEe (by omega)⟩
 have hcnt := L.cnt
 rw [← hn, ← hN, ← hm] at hcnt
 have hag' : agree v.S v'.S c := fun j lf hj => hag j lf hj
 have key : ∀ (i : Nat) (x : ND3), xs[i]? = some x → wkGc v'.S (c + n) (h + 1) ((c + i : Nat) : Int) ∧ wkE v'.S (h + 1) ((c + i : Nat) : Int) = entX v.S h x ∧ wkC v'.S (h + 1) ((c + i : Nat) : Int) = cX v.S h x ∧ ∀ k, wkV v'.S (h + 1) ((c + i : Nat) : Int) k = vX v.S h x k := by
  intro i x hi
  have hil := (List.getElem?_eq_some_iff.1 hi).1
  have hr := hrd i x hi
  obtain ⟨o1, o2, o3, o4⟩ := L.ok x (List.mem_of_getElem? hi)
  have sm := fun d hd => wkGc_same (c' := c + n) hag' (by omega) h d (o4 d hd)
  refine ⟨⟨⟨c + i, by omega, rfl⟩, by rw [hr], by rw [hr]; exact (right_len o1).1, by rw [hr]; exact (right_len o1).2, fun k hk => by rw [hr] at hk; exact (sm k hk).1⟩, ?_, ?_, fun k => ?_⟩
  ·rw [wkE, hr, entX, flat_congr (fun k hk => (sm k hk).2.1)]
  ·rw [wkC, hr, cX, List.map_congr_left (fun k hk => (sm k hk).2.2.1)]
  ·rw [wkV, hr, vX, wkVL_g, wkVL_g]
   congr 2
   refine gVL_zip _ _ _ rfl (fun i x y hx hy => ?_)
   rw [hx] at hy
   cases hy
   have := sm x (List.mem_of_getElem? hx)
   exact ⟨by rw [this.2.1], this.2.2.1, this.2.2.2⟩
 have hDs : ∀ (i : Nat) (d : Int), D[i]? = some d → (wkE v'.S (h + 1) d).length = min N (m - i * N) := by
  intro i d hd
  obtain ⟨x, hxi⟩ := hxg i (hlt hd)
  rw [hDg i (hlt hd)] at hd
  cases hd
  rw [(key i x hxi).2.1, hN, hm]
  exact (L.sz i x hxi).1
 have hKg : ∀ i, i < n → Ks[i]? = some (l.getD (i * N) ent0).key := by
  intro i hi
  obtain ⟨x, hxi⟩ := hxg i hi
  rw [hK, List.getElem?_map, hxi, hN]
  show some (least3 _ x) = _
  rw [(L.sz i x hxi).2]
 have hNlt : ∀ i, i < n → i * N < m := by
  intro i hi
  have h1 : (i + 1) * N ≤ m + N - 1 := Nat.le_trans (Nat.mul_le_mul_right N hi) (by rw [hcnt]; exact Nat.div_mul_le_self _ _)
  rw [Nat.add_mul, Nat.one_mul] at h1
  omega
 obtain ⟨X, hX⟩ : ∃ X : ND3, X = ⟨[], Ks, D⟩ := ⟨_, rfl⟩
 have hXD : X.D.length = n := by rw [hX]; exact hDl
 have hcap : capN (h + 1) = N * 16 := by rw [capN_succ, hN]
 have hcn : (chunkN X).length = (n + 15) / 16 := by rw [chunkN_length, hXD]
 have hch : ∀ (j : Nat) (y : ND3), (chunkN X)[j]? = some y → j * 16 < n ∧ y = ⟨[], cutL Ks (j * 16) (min (j * 16 + 16) n), cutL D (j * 16) (min (j * 16 + 16) n)⟩ := by
  intro j y hy
  have hj : j < (n + 15) / 16 := by have := (List.getElem?_eq_some_iff.1 hy).1; omega
  rw [chunkN, List.getElem?_map, List.getElem?_range (by rw [hXD]; exact hj)] at hy
  have hy' : chN X j = y := Option.some.inj hy
  refine ⟨by omega, ?_⟩
  rw [← hy', chN, hXD, hX]
 have hgl : ∀ j, j * 16 < n → ((cutL D (j * 16) (min (j * 16 + 16) n)).flatMap (wkE v'.S (h + 1))).length = min (N * 16) (m - j * (N * 16)) := by
  intro j hj
  rw [cut_len hDs _ _ (by omega) (by omega)]
  exact group_len hNp hcnt hj
 obtain ⟨gs, hgs⟩ : ∃ gs, gs = (List.range ((n + 15) / 16)).map (fun j => cutL D (j * 16) (min (j * 16 + 16) n)) := ⟨_, rfl⟩
 have hgsl : gs.length = (n + 15) / 16 := by rw [hgs]; simp
 have hgsf : gs.flatten = D := by
  have := chunks_flat D ((n + 15) / 16) (by rw [hDl]; exact Nat.le_refl _)
  rw [hDl] at this
  rw [hgs, this]
  exact List.take_of_length_le (by omega)
 have hgg : ∀ (j : Nat) (g : List Int), gs[j]? = some g → j * 16 < n ∧ g = cutL D (j * 16) (min (j * 16 + 16) n) := by
  intro j g hg
  have hj : j < (n + 15) / 16 := by have := (List.getElem?_eq_some_iff.1 hg).1; omega
  rw [hgs, List.getElem?_map, List.getElem?_range hj] at hg
  exact ⟨by omega, (Option.some.inj hg).symm⟩
 have hcnt' : (n + 15) / 16 = (m + N * 16 - 1) / (N * 16) := by rw [hcnt]; exact ceil_ceil m N hNp
 have hmpos : 0 < m := by have := hNlt 0 (by omega); omega
 have hDC : D.map (wkC v'.S (h + 1)) = xs.map (cX v.S h) := by
  refine List.ext_getElem? (fun i => ?_)
  rw [List.getElem?_map, List.getElem?_map]
  by_cases hi : i < n
  ·obtain ⟨x, hxi⟩ := hxg i hi
   rw [hDg i hi, hxi]
   show some _ = some _
   rw [(key i x hxi).2.2.1]
  ·rw [List.getElem?_eq_none (by omega), List.getElem?_eq_none (by omega)]; rfl
 have e0 : decide (h + 1 = 0) = false := dFf (by omega)
 refine ⟨rfl, ?_, hDl⟩
 show Lev l (h + 1) (c + n) v' (chunkN ⟨[], Ks, D⟩)
 rw [← hX]
 refine { vc := hvc, c2 := ?_, n1 := ?_, cnt := ?_, ok := ?_, sz := ?_, ents := ?_, vis := ?_, tot := ?_ }
 ·have := L.c2; omega
 ·rw [hcn]; omega
 ·rw [hcn, hcap, ← hm]; exact hcnt'
 ·intro y hy
  obtain ⟨j, hjy⟩ := List.getElem?_of_mem hy
  obtain ⟨hj, rfl⟩ := hch j y hjy
  obtain ⟨lo, hlo⟩ : ∃ lo, lo = j * 16 := ⟨_, rfl⟩
  obtain ⟨hi, hhi⟩ : ∃ hi, hi = min (j * 16 + 16) n := ⟨_, rfl⟩
  rw [← hhi, ← hlo]
  have kl : (cutL Ks lo hi).length = hi - lo := cutL_len _ _ _ (by omega)
  have dl : (cutL D lo hi).length = hi - lo := cutL_len _ _ _ (by omega)
  have kg : ∀ i, i < hi - lo → (cutL Ks lo hi).getD i (0, 0) = (l.getD ((lo + i) * N) ent0).key := by
   intro i hi'
   rw [gDe, cutL_get _ _ _ _ (by omega), hKg (lo + i) (by omega)]; rfl
  have dg : ∀ i, i < hi - lo → (cutL D lo hi)[i]? = some ((c + (lo + i) : Nat) : Int) := by
   intro i hi'
   rw [cutL_get _ _ _ _ (by omega), hDg (lo + i) (by omega)]
  have hkey : ∀ i, i < hi - lo → keyAt (cutL Ks lo hi) i = true := by
   intro i hi'
   have hlt := hNlt (lo + i) (by omega)
   have hok : keyOk (l.getD ((lo + i) * N) ent0).key = true := by
    have := hl.1 ((lo + i) * N) (by omega)
    simp only [entOk, Bool.and_eq_true] at this
    exact this.1.1.1.1.1.1
   rw [keyAt, kg i hi', hok, Bool.true_and]
   rcases Nat.eq_zero_or_pos i with h0 | h0
   ·rw [dTt h0]; rfl
   ·rw [kg (i - 1) (by omega), hrise ((lo + (i - 1)) * N) ((lo + i) * N) (Nat.mul_lt_mul_of_pos_right (by omega) hNp) (by omega), Bool.or_true]
  have hkid : ∀ i, i < hi - lo → kidAt (cutL D lo hi) i = true := by
   intro i hi'
   have hd : (cutL D lo hi).getD i 0 = ((c + (lo + i) : Nat) : Int) := by rw [gDe, dg i hi']; rfl
   have hb : betw ((c + (lo + i) : Nat) : Int) 2 511 = true := by
    have := L.c2
    rw [betw, dTt (by omega), dTt (by omega)]; rfl
   have hnin : ¬ ((c + (lo + i) : Nat) : Int) ∈ (cutL D lo hi).take i := by
    intro hmem
    obtain ⟨q, hq⟩ := List.getElem?_of_mem hmem
    have hql : q < i := by
     have := (List.getElem?_eq_some_iff.1 hq).1
     rw [lTk] at this
     omega
    rw [List.getElem?_take, if_pos hql, dg q (by omega)] at hq
    have := Option.some.inj hq
    omega
   rw [kidAt, hd, hb, dFf hnin]; rfl
  refine ⟨?_, (fun e he => by cases he), ?_, ?_⟩
  ·rw [e0, rightN, if_neg (by simp)]
   have hin : innerB (cutL Ks lo hi) (cutL D lo hi) = true := by
    rw [innerB, kl, dl, keysTo_of _ hkey, kidsTo_of _ hkid, dTt rfl, betw, dTt (by omega), dTt (by omega)]; rfl
   rw [hin]; rfl
  ·intro k hk
   have hk' : k ∈ cutL Ks lo hi := hk
   obtain ⟨q, hq⟩ := List.getElem?_of_mem hk'
   have hql : q < hi - lo := by have := (List.getElem?_eq_some_iff.1 hq).1; omega
   have hk2 := kg q hql
   rw [gDe, hq] at hk2
   have hk3 : k = (l.getD ((lo + q) * N) ent0).key := hk2
   have hlt := hNlt (lo + q) (by omega)
   rw [hk3, gDe, gEe (by omega)]
   exact (hl.2.2 _ (List.getElem_mem _)).1
  ·intro d hd
   have hd' : d ∈ cutL D lo hi := hd
   obtain ⟨q, hq⟩ := List.getElem?_of_mem hd'
   have hql : q < hi - lo := by have := (List.getElem?_eq_some_iff.1 hq).1; omega
   rw [dg q hql] at hq
   obtain ⟨x, hxi⟩ := hxg (lo + q) (by omega)
   have hdv : ((c + (lo + q) : Nat) : Int) = d := Option.some.inj hq
   rw [← hdv]
   exact (key (lo + q) x hxi).1
 ·intro j y hjy
  obtain ⟨hj, rfl⟩ := hch j y hjy
  constructor
  ·show ([] ++ (cutL D (j * 16) (min (j * 16 + 16) n)).flatMap (wkE v'.S (h + 1))).length = _
   rw [nAp, hgl j hj, hcap, hm]
  ·rw [e0, hcap]
   show (cutL Ks (j * 16) (min (j * 16 + 16) n)).getD 0 (0, 0) = _
   rw [gDe, cutL_get _ _ _ _ (by omega), Nat.add_zero, hKg _ hj, Nat.mul_comm N 16, ← Nat.mul_assoc]; rfl
 ·have e1 : (chunkN X).flatMap (entX v'.S (h + 1)) = (gs.flatten).flatMap (wkE v'.S (h + 1)) := by
   rw [hgs, chunkN, hXD]
   generalize List.range ((n + 15) / 16) = rs
   induction rs with
   | nil => rfl
   | cons r rs ih =>
    rw [List.map_cons, List.map_cons, List.flatMap_cons, List.flatten_cons, List.flatMap_append, ih]
    congr 1
    rw [entX, chN, hXD, hX]; rfl
  rw [e1, hgsf]
  have e2 : D.flatMap (wkE v'.S (h + 1)) = xs.flatMap (entX v.S h) := by
   rw [List.flatMap_def, List.flatMap_def]
   congr 1
   refine List.ext_getElem? (fun i => ?_)
   rw [List.getElem?_map, List.getElem?_map]
   by_cases hi : i < n
   ·obtain ⟨x, hxi⟩ := hxg i hi
    rw [hDg i hi, hxi]
    show some _ = some _
    rw [(key i x hxi).2.1]
   ·rw [List.getElem?_eq_none (by omega), List.getElem?_eq_none (by omega)]; rfl
  rw [e2]; exact L.ents
 ·intro k hk
  rw [← hm] at hk
  have s1 : gVL (nX v'.S (h + 1)) (cX v'.S (h + 1)) (vX v'.S (h + 1)) (chunkN X) k
    = gVL (fun g : List Int => (g.map fun d => (wkE v'.S (h + 1) d).length).sum) (fun g => 1 + (g.map (wkC v'.S (h + 1))).sum) (fun g k => 1 + gVL (fun d => (wkE v'.S (h + 1) d).length) (wkC v'.S (h + 1)) (wkV v'.S (h + 1)) g k) gs k := by
   refine gVL_zip _ _ _ (by rw [hcn, hgsl]) (fun j y g hy hg => ?_)
   obtain ⟨_, rfl⟩ := hch j y hy
   obtain ⟨_, rfl⟩ := hgg j g hg
   refine ⟨?_, rfl, fun k => ?_⟩
   ·show ([] ++ _).length = _
    rw [nAp, sum_flat]
   ·show 1 + (if k < ([] : List ENT).length then 0 else wkVL _ _ _ _ (k - ([] : List ENT).length)) = _
    rw [if_neg (by simp), wkVL_g]; rfl
  have hsum : (D.map fun d => (wkE v'.S (h + 1) d).length).sum = m := by
   rw [← sum_flat]
   have := pre_len hDs n (by omega)
   rw [List.take_of_length_le (by omega)] at this
   rw [this]
   have h1 := Nat.div_add_mod (m + N - 1) N
   have h2 := Nat.mod_lt (m + N - 1) hNp
   rw [← hcnt, Nat.mul_comm] at h1
   omega
  rw [s1, gVL_groups gs k (by rw [hgsf, hsum]; exact hk), hgsf]
  have s2 : gVL (fun d => (wkE v'.S (h + 1) d).length) (wkC v'.S (h + 1)) (wkV v'.S (h + 1)) D k = gVL (nX v.S h) (cX v.S h) (vX v.S h) xs k := by
   refine gVL_zip _ _ _ (by omega) (fun i d x hd hxi => ?_)
   rw [hDg i (hlt hd)] at hd
   cases hd
   exact ⟨by rw [(key i x hxi).2.1]; rfl, (key i x hxi).2.2.1, (key i x hxi).2.2.2⟩
  have hm' : m ≤ (0 + gs.length) * (N * 16) := by
   rw [Nat.zero_add, hgsl, hcnt']
   have h1 := Nat.div_add_mod (m + N * 16 - 1) (N * 16)
   have h2 := Nat.mod_lt (m + N * 16 - 1) (show 0 < N * 16 by omega)
   rw [Nat.mul_comm] at h1
   omega
  have s3 := gIdx_div (n := fun d => (wkE v'.S (h + 1) d).length) (M := N * 16) (m := m) (by omega) gs 0 k (fun j g hg => by
   obtain ⟨hj, rfl⟩ := hgg j g hg
   rw [← sum_flat, hgl j hj, Nat.zero_add]) (by omega) hk hm'
  rw [Nat.zero_mul, Nat.sub_zero, Nat.sub_zero] at s3
  rw [s2, s3, L.vis k (by omega), visF, hcap]
 ·have e1 : (chunkN X).map (cX v'.S (h + 1)) = gs.map (fun g => 1 + (g.map (wkC v'.S (h + 1))).sum) := by
   rw [hgs, chunkN, hXD, List.map_map, List.map_map]
   refine List.map_congr_left (fun j _ => ?_)
   show 1 + _ = 1 + _
   rw [chN, hXD, hX]
  rw [e1, sum_groups, hgsf, hDC, L.tot, hgsl, visF, hcap, ← hm, hcnt']
  have : m + N * 16 - 1 = (m - 1) + N * 16 := by omega
  rw [this, Nat.add_div_right _ (show 0 < N * 16 by omega)]
  omega
theorem node_facts {S S' : DS} {c c' h j : Nat} {x : ND3} (hr : rdN S' (j : Int) (decide (h = 0)) = ⟨decide (h = 0), x.E, x.K, x.D, 0⟩) (hag : agree S S' c) (hc : c ≤ c') (hj : j < c') (hx : rightN (decide (h = 0)) x.E x.K x.D = true) (hd : ∀ d ∈ x.D, wkGc S c h d) :
  wkGc S' c' (h + 1) (j : Int) ∧ wkE S' (h + 1) (j : Int) = entX S h x ∧ wkC S' (h + 1) (j : Int) = cX S h x ∧ ∀ k, wkV S' (h + 1) (j : Int) k = vX S h x k := by
 have sm := fun d hd' => wkGc_same (c' := c') hag hc h d (hd d hd')
 refine ⟨⟨⟨j, hj, rfl⟩, by rw [hr], by rw [hr]; exact (right_len hx).1, by rw [hr]; exact (right_len hx).2, fun k hk => by rw [hr] at hk; exact (sm k hk).1⟩, ?_, ?_, fun k => ?_⟩
 ·rw [wkE, hr, entX, flat_congr (fun k hk => (sm k hk).2.1)]
 ·rw [wkC, hr, cX, List.map_congr_left (fun k hk => (sm k hk).2.2.1)]
 ·rw [wkV, hr, vX, wkVL_g, wkVL_g]
  congr 2
  refine gVL_zip _ _ _ rfl (fun i x y hx hy => ?_)
  rw [hx] at hy
  cases hy
  have := sm x (List.mem_of_getElem? hx)
  exact ⟨by rw [this.2.1], this.2.2.1, this.2.2.2⟩
structure Held (l : List ENT) (R : VS × (Int × Nat) × Nat) : Prop where
 e : R.2.2 = 0
 c : ∃ c, c ≤ 200 ∧ VC c R.1
 h5 : R.2.1.2 ≤ 5
 h1 : 1 ≤ R.2.1.2
 g : wkG R.1.S R.2.1.2 R.2.1.1
 E : wkE R.1.S R.2.1.2 R.2.1.1 = l
 V : ∀ k, k < l.length → wkV R.1.S R.2.1.2 R.2.1.1 k = visF (R.2.1.2 - 1) k
 C : wkC R.1.S R.2.1.2 R.2.1.1 = visF (R.2.1.2 - 1) (l.length - 1)
 last : (l.length + capN (R.2.1.2 - 1) - 1) / capN (R.2.1.2 - 1) = 1
 big : ∀ i, i < R.2.1.2 - 1 → 2 ≤ (l.length + capN i - 1) / capN i
theorem Lev.fin {l : List ENT} {h c : Nat} {v : VS} {x : ND3} (L : Lev l h c v [x]) (hc : c < 200) (hh : h ≤ 4) (hb : ∀ i, i < h → 2 ≤ (l.length + capN i - 1) / capN i) : Held l (finN (decide (h = 0)) v [x] (h + 1)) := by
 obtain ⟨o1, o2, o3, o4⟩ := L.ok x (List.mem_singleton.2 rfl)
 obtain ⟨v', e, hvc, hrd, hag⟩ := L.vc.wr L.c2 hc o1 o2 o3
 have hag' : agree v.S v'.S c := fun j lf hj => hag j lf (by omega) (by omega)
 obtain ⟨f1, f2, f3, f4⟩ := node_facts (c' := c + 1) hrd hag' (by omega) (by omega) o1 o4
 have hx : ([x] : List ND3).getD 0 ⟨[], [], []⟩ = x := rfl
 have hR : finN (decide (h = 0)) v [x] (h + 1) = (v', ((c : Int), h + 1), 0) := by rw [finN, if_neg (by omega), hx, e]
 rw [hR]
 have hents := L.ents
 rw [List.flatMap_cons, List.flatMap_nil, List.append_nil] at hents
 have hcnt := L.cnt
 have hvis := L.vis
 have htot := L.tot
 have hn : nX v.S h x = l.length := by rw [nX, hents]
 refine { e := rfl, c := ⟨c + 1, by omega, hvc⟩, h5 := ?_, h1 := ?_, g := wkGc_G (by omega) _ _ f1, E := ?_, V := ?_, C := ?_, last := ?_, big := ?_ }
 ·show h + 1 ≤ 5; omega
 ·show 1 ≤ h + 1; omega
 ·show wkE v'.S (h + 1) (c : Int) = l
  rw [f2]; exact hents
 ·intro k hk
  show wkV v'.S (h + 1) (c : Int) k = visF h k
  rw [f4, ← hvis k hk, gVL, if_pos (by omega)]
 ·show wkC v'.S (h + 1) (c : Int) = visF h (l.length - 1)
  rw [f3, ← htot]; simp
 ·show (l.length + capN h - 1) / capN h = 1
  rw [← hcnt]; rfl
 ·exact hb
def tkF (H m n : Nat) : Nat := if m = 0 ∨ n = 0 then 0 else visF (H - 1) (min n m - 1)
structure Built (l : List ENT) (R : VS × (Int × Nat) × Nat) : Prop where
 e : R.2.2 = 0
 ok : R.1.ok
 wt : R.1.S.W.length ≤ 1000000
 h5 : R.2.1.2 ≤ 5
 g : R.2.1.2 = 0 ∨ wkG R.1.S R.2.1.2 R.2.1.1
 E : wkE R.1.S R.2.1.2 R.2.1.1 = l
 C : wkC R.1.S R.2.1.2 R.2.1.1 ≤ 1000000
 tk : ∀ n, tkC R.1.S R.2.1.2 R.2.1.1 n = tkF R.2.1.2 l.length n
theorem walk_Entries (pv : Option Nat) (a h : Int) : SpecR Tryz.prog 138 #[.pointer (pv.map fun p => ⟨p, 0, none⟩), rootV a h] (fun _ => True) (fun r H' => ∃ pw b2 b3 : Nat, r = .func (.func 199) #[] [.pointer (some ⟨b2, 0, none⟩), .pointer (some ⟨b3, 0, none⟩)].toArray
  ∧ H' = [blk b2 263 [.pointer (some ⟨pw, 0, none⟩)], blk b3 43 [.int .i64 a, .int .i64 h], blk pw 265 [.pointer (pv.map fun p => ⟨p, 0, none⟩), .int .i64 0]]) := by
 refine SpecR.of (fun w _ => ?_)
 refine Calls.enter Tryz.func138 rfl rfl rfl (St.rebase w) ?_
 simp only [argSlots]
 refine Ws ?_
 (refine Wbx ?_; intro b3)
 refine Ws ?_
 refine Zbu (ys := [.pointer (pv.map fun p => ⟨p, 0, none⟩), .int .i64 0]) ?_
 refine Ws ?_
 (refine Wbx ?_; intro pw)
 refine Ws ?_
 refine Zla (cs := rootL a h) ?_ (hl := by rfl)
 refine Ws ?_
 refine Zcr (walker_entries pw a h) ?_
 rintro r2 H2 ⟨b2, b4, rfl, rfl⟩
 refine Wap ?_
 refine Ws ?_
 refine Zfn [blk b2 263 [.pointer (some ⟨pw, 0, none⟩)], blk b4 43 [.int .i64 a, .int .i64 h], blk pw 265 [.pointer (pv.map fun p => ⟨p, 0, none⟩), .int .i64 0]] (hq := ?_)
 exact ⟨pw, b2, b4, rfl, rfl⟩
def eachH (pw pv d : Nat) (v : VS) (w0 : World) (l : Nat) (h : Nat) (a : Int) : Prop := ∀ (I J : Nat → Atom) (N : Nat), N + wkC v.S h a ≤ 1000000 →
  (∀ k e, (wkE v.S h a)[k]? = some e → YSpec Tryz.prog w0 l #[entV e, .int .i64 0] (Gv.star [I k, DSK d v.S]) (Gv.star [I (k + 1), DSK d v.S]) (Gv.star [J k, DSK d v.S])) →
  SpecW Tryz.prog w0 200 #[.pointer (some ⟨pw, 0, none⟩), .int .i64 a, .int .i64 (h : Int), .func (.yield l) #[] #[]]
   [I 0, blk pw 265 [.pointer (some ⟨pv, 0, none⟩), .int .i64 (N : Int)], blk pv 146 (viewL d v), DSK d v.S]
   (eachR (wkE v.S h a) I J pw pv d v N (wkC v.S h a) (wkV v.S h a))
theorem each_stepH (pw pv d : Nat) (v : VS) (hv : v.ok) (hl : v.S.W.length ≤ 1000000) (w0 : World) (l : Nat) (h : Nat) (a : Int) (hg : wkG v.S (h + 1) a) (hh : h ≤ 1000)
  (ih : ∀ k ∈ (rdN v.S a (decide (h = 0))).D, eachH pw pv d v w0 l h k) : eachH pw pv d v w0 l (h + 1) a := by
 intro I J N hN hY
 refine SpecW.of (fun w h0 hw => ?_)
 refine Calls.enter Tryz.func200 rfl rfl rfl hw ?_
 simp only [argSlots]
 refine Tri.wr ?_
 refine Wap ?_
 obtain ⟨ha, he, hEl, hDl, _⟩ := hg
 have hE : wkE v.S (h + 1) a = (rdN v.S a (decide (h = 0))).E ++ (rdN v.S a (decide (h = 0))).D.flatMap (wkE v.S h) := rfl
 have hC : wkC v.S (h + 1) a = 1 + ((rdN v.S a (decide (h = 0))).D.map (wkC v.S h)).sum := rfl
 have hV : ∀ k, wkV v.S (h + 1) a k = 1 + if k < (rdN v.S a (decide (h = 0))).E.length then 0 else wkVL (wkE v.S h) (wkC v.S h) (wkV v.S h) (rdN v.S a (decide (h = 0))).D (k - (rdN v.S a (decide (h = 0))).E.length) := fun _ => rfl
 rw [hC] at hN
 generalize wkE v.S (h + 1) a = ES at hE hY ⊢
 generalize wkC v.S (h + 1) a = CC at hC ⊢
 generalize wkV v.S (h + 1) a = VV at hV ⊢
 refine Ws ?_
 refine Zz 22 (decide (h = 0)) ?_ (hi := by exact decide_eq_decide.2 (by omega))
 refine Zcs (view_Node pv d v a (decide (h = 0)) hv hl ha) ?_
 rintro r1 H1 ⟨A, c, B, b, C, e, rfl, rfl⟩
 refine Wap ?_
 generalize rdN v.S a (decide (h = 0)) = G at *
 refine Ws ?_
 refine Zal fun b9 => ?_
 refine Ws ?_
 refine ZSa (ys := ndLL G.leaf (.slice A G.E.length c) (.slice B G.K.length b) (.slice C G.D.length e)) ?_ (h1 := by exact ndLL_one G.leaf A B C _ c _ b _ e)
 refine Wr ?_
 refine Zz 34 false ?_ (hi := by rw [he]; rfl)
 refine Ws ?_
 refine Zat (blk pw _ _) (blk pw 265 [.pointer (some ⟨pv, 0, none⟩), .int .i64 ((N + 1 : Nat) : Int)]) ?_
 (refine Wl (α := { i : Nat // i ≤ G.E.length }) (fun x => G.E.length - x.1) (fun x => [(0, .pointer (some ⟨pw, 0, none⟩)), (2, .int .i64 ((h + 1 : Nat) : Int)), (3, .func (.yield l) #[] #[]), (9, .pointer (some ⟨b9, 0, none⟩)), (40, .slice A G.E.length c), (41, .int .i64 (G.E.length : Int)), (42, .int .i64 (x.1 : Int))]) (fun x => [I x.1, blk pw 265 [.pointer (some ⟨pv, 0, none⟩), .int .i64 ((N + 1 : Nat) : Int)], blk pv 146 (viewL d v), DSK d v.S, blk b9 125 (ndLL G.leaf (.slice A G.E.length c) (.slice B G.K.length b) (.slice C G.D.length e)), own 40 8 (.slice A G.E.length c) G.E.length (EL G.E), own 3 1 (.slice C G.D.length e) G.D.length (NL G.D), Ex h0]) ⟨0, Nat.zero_le _⟩ ?_; rintro ⟨i, hi⟩ mx hmx; (try dsimp only at hmx ⊢))
 refine Ws ?_
 (refine Wcd ?_ ?_ <;> intro hc)
 ·have hil : i < G.E.length := by omega
  obtain ⟨x, hx⟩ : ∃ x, x = G.E.getD i ent0 := ⟨_, rfl⟩
  have hE8 : ((EL G.E).drop (i * 8)).take 8 = entL x := by rw [hx]; exact EL_eight G.E i hil
  have hxi : ES[i]? = some x := by
   rw [hE, List.getElem?_append_left hil, hx, gDe, gEe hil]; rfl
  have hil' : i + 1 ≤ G.E.length := hil
  refine Ws ?_
  refine Zix (j := i) ?_ (hj := by rfl) (hlt := by exact hil)
  refine Ws ?_
  refine Zlq ?_ (hv := by exact hE8) (hl := by rfl)
  refine Ws ?_
  refine Zal fun b12 => ?_
  refine Ws ?_
  refine ZSa (ys := entL x) ?_ (h1 := by exact entL_one5 x)
  refine Ws ?_
  refine Zla (cs := entL x) ?_ (hl := by rfl)
  refine Ws ?_
  refine Tri.star [I i, DSK d v.S] Wps ?_
  ((with_reducible apply TriR.yield (hy := hY i x hxi)); (case hx => rfl); (case hargs => (repeat (first | exact evs.nil | (apply evs.cons; (case a => rfl))))); (case hn => rfl); (case p => (first | ((repeat (first | with_reducible exact Pull.head | with_reducible apply Pull.tail)); done) | (repeat (first | exact Pull.head | apply Pull.tail)))))
  ·refine Tri.unstar Wp ?_
   refine Wap ?_
   refine Ws ?_
   refine Zz 49 false ?_
   refine Ws ?_
   refine Zi 42 ((i + 1 : Nat) : Int) ?_ (hi := by omega)
   exact Zag ⟨i + 1, hil'⟩
  ·refine Tri.unstar Wp ?_
   refine Wap ?_
   refine Ws ?_
   refine Zz 49 true ?_
   refine Ws ?_
   have hvi : VV i = 1 := by rw [hV i, if_pos hil]
   have hlt : i < ES.length := by rw [hE, lAp]; omega
   refine Zat (blk pw _ _) (blk pw 265 [.pointer (some ⟨pv, 0, none⟩), .int .i64 ((N + VV i : Nat) : Int)]) ?_ (e := by rw [hvi])
   exact Zfn [J i, blk pw 265 [.pointer (some ⟨pv, 0, none⟩), .int .i64 ((N + VV i : Nat) : Int)], blk pv 146 (viewL d v), DSK d v.S] (hq := by exact .inr ⟨i, hlt, rfl, rfl⟩)
 ·have hil : i = G.E.length := by omega
  subst hil
  refine Ws ?_
  refine Zat (I G.E.length) (I (G.E.length + ((G.D.take 0).flatMap (wkE v.S h)).length)) ?_
  refine Zat (blk pw _ _) (blk pw 265 [.pointer (some ⟨pv, 0, none⟩), .int .i64 ((N + 1 + ((G.D.take 0).map (wkC v.S h)).sum : Nat) : Int)]) ?_
  (refine Wl (α := { j : Nat // j ≤ G.D.length }) (fun x => G.D.length - x.1) (fun x => [(0, .pointer (some ⟨pw, 0, none⟩)), (2, .int .i64 ((h + 1 : Nat) : Int)), (3, .func (.yield l) #[] #[]), (52, .slice C G.D.length e), (53, .int .i64 (G.D.length : Int)), (54, .int .i64 (x.1 : Int))]) (fun x => [I (G.E.length + ((G.D.take x.1).flatMap (wkE v.S h)).length), blk pw 265 [.pointer (some ⟨pv, 0, none⟩), .int .i64 ((N + 1 + ((G.D.take x.1).map (wkC v.S h)).sum : Nat) : Int)], blk pv 146 (viewL d v), DSK d v.S, own 3 1 (.slice C G.D.length e) G.D.length (NL G.D), Ex h0]) ⟨0, Nat.zero_le _⟩ ?_; rintro ⟨j, hj⟩ mx hmx; (try dsimp only at hmx ⊢))
  refine Ws ?_
  (refine Wcd ?_ ?_ <;> intro hc2)
  ·have hjl : j < G.D.length := by omega
   have hjl' : j + 1 ≤ G.D.length := hjl
   obtain ⟨k, hk⟩ : ∃ k, G.D[j]? = some k := ⟨_, gEe hjl⟩
   have hkn : (NL G.D)[j * 1]? = some (.int .i64 k) := by rw [Nat.mul_one, nl_get, hk]; rfl
   obtain ⟨off, hoff⟩ : ∃ off, off = G.E.length + ((G.D.take j).flatMap (wkE v.S h)).length := ⟨_, rfl⟩
   obtain ⟨M, hM⟩ : ∃ M, M = N + 1 + ((G.D.take j).map (wkC v.S h)).sum := ⟨_, rfl⟩
   have hst := wk_stake (C := wkC v.S h) hk
   have hsl := wk_sle (C := wkC v.S h) G.D (j + 1)
   have hfl := wk_take (E := wkE v.S h) hk
   have hfe := wk_le (E := wkE v.S h) G.D (j + 1)
   have hMb : M + wkC v.S h k ≤ 1000000 := by omega
   have hsub : ∀ q x, (wkE v.S h k)[q]? = some x → ES[off + q]? = some x := fun q x hq => by
    have hql : q < (wkE v.S h k).length := (List.getElem?_eq_some_iff.1 hq).1
    rw [hE, hoff, List.getElem?_append_right (by omega), Nat.add_assoc, Nat.add_sub_cancel_left, wk_at G.D j q k hk hql]
    exact hq
   have hYk : ∀ q x, (wkE v.S h k)[q]? = some x → YSpec Tryz.prog w0 l #[entV x, .int .i64 0] (Gv.star [(fun q => I (off + q)) q, DSK d v.S]) (Gv.star [(fun q => I (off + q)) (q + 1), DSK d v.S]) (Gv.star [(fun q => J (off + q)) q, DSK d v.S]) := fun q x hq => hY (off + q) x (hsub q x hq)
   have hcall := ih k (List.mem_of_getElem? hk) (fun q => I (off + q)) (fun q => J (off + q)) M hMb hYk
   rw [← hoff, ← hM]
   refine Ws ?_
   refine Zix (j := j) ?_ (hj := by rfl) (hlt := by exact hjl)
   refine Ws ?_
   refine Zlo ?_ (hv := by exact hkn)
   refine Ws ?_
   refine Zi 61 (h : Int) ?_ (hi := by omega)
   refine Ws ?_
   refine Zat (I off) ((fun q => I (off + q)) 0) ?_
   refine Zcw hcall ?_
   rintro r2 H2 (⟨rfl, rfl⟩ | ⟨q, hq, rfl, rfl⟩)
   ·(try dsimp only [cAp, nAp])
    refine Ws ?_
    refine Zz 64 false ?_
    refine Ws ?_
    refine Zi 54 ((j + 1 : Nat) : Int) ?_ (hi := by omega)
    refine Zat (I (off + (wkE v.S h k).length)) (I (G.E.length + ((G.D.take (j + 1)).flatMap (wkE v.S h)).length)) ?_ (e := by rw [hoff, hfl, Nat.add_assoc])
    refine Zat (blk pw _ _) (blk pw 265 [.pointer (some ⟨pv, 0, none⟩), .int .i64 ((N + 1 + ((G.D.take (j + 1)).map (wkC v.S h)).sum : Nat) : Int)]) ?_ (e := by rw [hst, hM, Nat.add_assoc (N + 1)])
    exact Zag ⟨j + 1, hjl'⟩
   ·(try dsimp only [cAp, nAp])
    have hvi : VV (off + q) = 1 + (((G.D.take j).map (wkC v.S h)).sum + wkV v.S h k q) := by
     rw [hV (off + q), if_neg (by omega), hoff, show G.E.length + ((G.D.take j).flatMap (wkE v.S h)).length + q - G.E.length = ((G.D.take j).flatMap (wkE v.S h)).length + q by omega, wkVL_at G.D j q k hk hq]
    have hlt : off + q < ES.length := by rw [hE, lAp]; omega
    refine Ws ?_
    refine Zz 64 true ?_
    refine Ws ?_
    refine Zat (blk pw _ _) (blk pw 265 [.pointer (some ⟨pv, 0, none⟩), .int .i64 ((N + VV (off + q) : Nat) : Int)]) ?_ (e := by rw [show M + wkV v.S h k q = N + VV (off + q) by rw [hvi, hM]; omega])
    exact Zfn [J (off + q), blk pw 265 [.pointer (some ⟨pv, 0, none⟩), .int .i64 ((N + VV (off + q) : Nat) : Int)], blk pv 146 (viewL d v), DSK d v.S] (hq := by exact .inr ⟨off + q, hlt, rfl, rfl⟩)
  ·have hjl : j = G.D.length := by omega
   subst hjl
   rw [List.take_length]
   have hEL : ES.length = G.E.length + (G.D.flatMap (wkE v.S h)).length := by rw [hE, lAp]
   have hNC : N + 1 + (G.D.map (wkC v.S h)).sum = N + CC := by rw [hC]; omega
   rw [← hEL, hNC]
   refine Ws ?_
   exact Zfn [I ES.length, blk pw 265 [.pointer (some ⟨pv, 0, none⟩), .int .i64 ((N + CC : Nat) : Int)], blk pv 146 (viewL d v), DSK d v.S] (hq := by exact .inl ⟨rfl, rfl⟩)
theorem walker_eachH (pw pv d : Nat) (v : VS) (hv : v.ok) (hl : v.S.W.length ≤ 1000000) (w0 : World) (l : Nat) : ∀ (h : Nat) (a : Int), wkG v.S h a → h ≤ 1000 → eachH pw pv d v w0 l h a := by
 intro h
 induction h with
 | zero => intro a hg _; exact hg.elim
 | succ h ih =>
  intro a hg hh
  exact each_stepH pw pv d v hv hl w0 l h a hg (by omega) (fun k hk => ih k (hg.2.2.2.2 k hk) (by omega))
def walkCH (pw pv d b2 b3 : Nat) (v : VS) (a h : Int) (N : Nat) : List Atom := [blk b2 263 [.pointer (some ⟨pw, 0, none⟩)], blk b3 43 [.int .i64 a, .int .i64 h], blk pw 265 [.pointer (some ⟨pv, 0, none⟩), .int .i64 (N : Int)], blk pv 146 (viewL d v)]
theorem entries_iterH (pw pv d b2 b3 : Nat) (v : VS) (hv : v.ok) (hl : v.S.W.length ≤ 1000000) (h : Nat) (a : Int) (hh : h ≤ 5) (hg : h = 0 ∨ wkG v.S h a) (N : Nat) (hN : N + wkC v.S h a ≤ 1000000) :
  IterH Tryz.prog 199 [.pointer (some ⟨b2, 0, none⟩), .pointer (some ⟨b3, 0, none⟩)] [DSK d v.S] (walkCH pw pv d b2 b3 v a (h : Int) N) (fun k => walkCH pw pv d b2 b3 v a (h : Int) (N + wkV v.S h a k)) (walkCH pw pv d b2 b3 v a (h : Int) (N + wkC v.S h a)) (rowsW (wkE v.S h a)) := by
 refine IterH.of (fun w0 l I J hY w h0 hw => ?_)
 rw [rowsW_length]
 simp only [walkCH] at hw ⊢
 refine Calls.enter Tryz.func199 rfl rfl rfl hw ?_
 simp only [argSlots]
 refine Tri.wr ?_
 refine Wap ?_
 refine Ws ?_
 refine Zz 10 false ?_
 refine Ws ?_
 refine Zz 15 false ?_ (hi := by exact dFf (by omega))
 refine Ws ?_
 refine Zz 4 false ?_ (hi := by exact dFf (by omega))
 refine Ws ?_
 rcases hg with hg | hg
 ·subst hg
  refine Zz 23 false ?_
  refine Ws ?_
  (first | with_reducible apply Tri.fin | with_reducible apply Tri.finN)
  case hr => rfl
  case h => exact ResL.nil
  exact fun w' hw' => .inl ⟨(hw'.pulls (As := [I 0, blk b2 263 [.pointer (some ⟨pw, 0, none⟩)], blk b3 43 [.int .i64 a, .int .i64 ((0 : Nat) : Int)], blk pw 265 [.pointer (some ⟨pv, 0, none⟩), .int .i64 (N : Int)], blk pv 146 (viewL d v), DSK d v.S, Ex h0]) Wps).1, Sat.left (hw'.pulls Wps).2⟩
 ·have hpos : 0 < h := by
   rcases Nat.eq_zero_or_pos h with q | q
   ·subst q; exact hg.elim
   ·exact q
  refine Zz 23 true ?_ (hi := by exact dTt (by omega))
  refine Ws ?_
  have hcall := walker_eachH pw pv d v hv hl w0 l h a hg (by omega) I J N hN (fun k e he => hY k _ (rowsW_get he))
  refine Zcw hcall ?_
  rintro r2 H2 (⟨rfl, rfl⟩ | ⟨q, hq, rfl, rfl⟩)
  ·(try dsimp only [cAp, nAp])
   refine Ws ?_
   (first | with_reducible apply Tri.fin | with_reducible apply Tri.finN)
   case hr => rfl
   case h => exact ResL.nil
   exact fun w' hw' => .inl ⟨(hw'.pulls (As := [I (wkE v.S h a).length, blk b2 263 [.pointer (some ⟨pw, 0, none⟩)], blk b3 43 [.int .i64 a, .int .i64 (h : Int)], blk pw 265 [.pointer (some ⟨pv, 0, none⟩), .int .i64 ((N + wkC v.S h a : Nat) : Int)], blk pv 146 (viewL d v), DSK d v.S, Ex h0]) Wps).1, Sat.left (hw'.pulls Wps).2⟩
  ·(try dsimp only [cAp, nAp])
   refine Ws ?_
   (first | with_reducible apply Tri.fin | with_reducible apply Tri.finN)
   case hr => rfl
   case h => exact ResL.nil
   exact fun w' hw' => .inr ⟨q, hq, (hw'.pulls (As := [J q, blk b2 263 [.pointer (some ⟨pw, 0, none⟩)], blk b3 43 [.int .i64 a, .int .i64 (h : Int)], blk pw 265 [.pointer (some ⟨pv, 0, none⟩), .int .i64 ((N + wkV v.S h a q : Nat) : Int)], blk pv 146 (viewL d v), DSK d v.S, Ex h0]) Wps).1, Sat.left (hw'.pulls Wps).2⟩
theorem base_Bytes (pb d pv : Nat) (S : DS) (s : SP) (m : BM) (op : Bool) (x : ENT) (hm : m.u.length = 512) (hS : S.ok) (ho : S.off = false) (hA : S.A.length % 256 = 0) (hl : S.W.length ≤ 1000000) (hx : TxE S x) :
  Gv.Spec Tryz.prog 95 #[.pointer (some ⟨pb, 0, none⟩), entV x] [blk pb 161 (baseL d pv s m op false), DSK d S]
  (fun r H' => ∃ A h1, r = .tuple #[.slice A x.len.toNat x.len.toNat, .int .i64 0] ∧ Rd h1 (.slice A x.len.toNat x.len.toNat) (txE S x).length (B8 (txE S x)) ∧ (txE S x).length = x.len.toNat ∧ H' = [blk pb 161 (baseL d pv s m op false), DSK d S, Ex h1]) := by
 refine Gv.Spec.of (fun w h0 hw => ?_)
 refine Calls.enter Tryz.func95 rfl rfl rfl hw ?_
 simp only [argSlots]
 refine Wap ?_
 obtain ⟨b1, b2⟩ := hx.bounds
 have hrE := hx.rd ho hA
 have hfit := hx.fit
 have hPg := disk_PagesD d S hS
 have hn : x.len = (x.len.toNat : Int) := by omega
 have hRR := page_ReadRaw d S x.addr x.len.toNat hS hl (by omega) (by omega)
 rw [← hn] at hRR
 have hpb : 0 ≤ pagesE x.len ∧ pagesE x.len ≤ 1000 := by rw [pagesE]; omega
 have hpg := node_PagesE x ⟨by omega, by omega⟩
 refine Ws ?_
 (refine Wbx ?_; intro b3)
 refine Ws ?_
 refine Zd (base_may pb d pv s m op false hm) ?_
 refine Ws ?_
 refine Zz 12 false ?_
 refine Ws ?_
 refine Wm [blk b3 40 (entL x), blk pb 161 (baseL d pv s m op false)] ?_
 refine Zm 0 (h := fun _ _ qK => by exact Zla (cs := entL x) qK (hl := by rfl)) (k := ?_)
 refine ZA 1 ?_
 refine Zcr (txn_alone x) ?_
 rintro r2 H2 ⟨Av, cv, rfl, rfl⟩
 refine Wap ?_
 refine Zat (own 40 8 (.slice Av 1 cv) _ _) (own 40 8 (.slice Av 1 cv) [x].length (EL [x])) ?_
 refine Zw ?_
 refine ZA 2 ?_
 refine Zcv (node_Right true (.slice Av 1 cv) (.slice none 0 0) (.slice none 0 0) [x] [] []) ?_ (hpre := by exact fun w' hw' => ⟨rdw_own (v := .slice Av 1 cv) Wp w' hw', rd_noneT _, rd_noneT _⟩)
 refine Zw ?_
 refine Wq [3] ?_
 refine ZMb 17 false ?_ (hi := by rw [one_right hx.ok]; rfl)
 refine Wq [4, 5, 6] ?_
 refine Zm 7 (h := fun _ _ qK => by exact Zla (cs := entL x) qK (hl := by rfl)) (k := ?_)
 refine Zm 8 (h := fun _ _ qK => by exact Zcv hpg qK) (k := ?_)
 refine Wq [9] ?_
 refine ZMi 23 (x.addr + pagesE x.len) ?_ (hi := by omega)
 refine Wq [10, 11, 12] ?_
 refine Zm 13 (h := fun _ _ qK => by exact Zl qK (hv := by exact baseL_d)) (k := ?_)
 refine ZAy 14 ?_
 refine Zd hPg ?_
 refine Zw ?_
 refine Wq [15, 16] ?_
 refine ZE ?_
 refine Ws ?_
 refine Zz 30 false ?_ (hi := by exact dFf (by omega))
 refine Ws ?_
 refine Wm [blk b3 40 (entL x), blk pb 161 (baseL d pv s m op false)] ?_
 refine Wq [0, 1, 2] ?_
 refine Zm 3 (h := fun _ _ qK => by exact Zl qK (hv := by exact baseL_d)) (k := ?_)
 refine Wq [4, 5, 6, 7] ?_
 refine ZA 8 ?_
 refine Zcs hRR ?_
 rintro r4 H4 (⟨hne, _, _⟩ | ⟨_, A, h1, rfl, hrd, hln, rfl⟩)
 ·exact absurd hrE hne
 refine Wap ?_
 refine Zw ?_
 refine Wq [9, 10, 11, 12, 13] ?_
 refine ZE ?_
 refine Ws ?_
 refine Zz 44 false ?_
 refine Ws ?_
 refine Wm [blk b3 40 (entL x), blk pb 161 (baseL d pv s m op false), Ex h1] ?_
 refine Wq [0, 1, 2] ?_
 refine Zm 3 (h := fun _ _ qK => by exact Zlg qK (hv := by exact baseL_tab d pv s m op false) (hl := by exact tabL_length)) (k := ?_)
 refine Wq [4] ?_
 refine Zm 5 (h := fun _ _ qK => by exact Zcv (crc_Sum (.slice A x.len.toNat x.len.toNat) (txE S x)) qK (hpre := by exact rdw_ex Wp hrd)) (k := ?_)
 refine Wq [6, 7, 8] ?_
 refine ZMb 56 false ?_ (hi := by exact dFf (fun c => c (by rw [hx.crc])))
 refine ZE ?_
 refine Ws ?_
 exact Zfn [blk pb 161 (baseL d pv s m op false), DSK d S, Ex h1] (hq := by exact ⟨A, h1, rfl, hrd, hln, rfl⟩)
theorem base_stoppedR (bv : Value) (e : Int) (he : e ≠ 2) :
  SpecR Tryz.prog 96 #[bv, .int .i64 e] (fun _ => True) (fun r H' => r = .int .i64 e ∧ H' = []) := by
 refine SpecR.of (fun w _ => ?_)
 refine Calls.enter Tryz.func96 rfl rfl rfl (St.rebase w) ?_
 simp only [argSlots]
 refine Ws ?_
 refine Zz 6 false ?_ (hi := by exact dFf he)
 refine Ws ?_
 exact Zfr (hq := by simp only [tupled]; skip)
def baseC (b1 pb d pv : Nat) (v : VS) (s : SP) (m : BM) (op : Bool) : List Atom := [blk b1 75 [.pointer (some ⟨pb, 0, none⟩)], blk pv 146 (viewL d v)]
def baseS (pb d pv : Nat) (v : VS) (s : SP) (m : BM) (op : Bool) : List Atom := [blk pb 161 (baseL d pv s m op false), DSK d v.S]
theorem base_Entries (pb : Nat) : SpecR Tryz.prog 94 #[.pointer (some ⟨pb, 0, none⟩)] (fun _ => True) (fun r H' => ∃ b1 : Nat, r = .func (.func 137) #[] [.pointer (some ⟨b1, 0, none⟩)].toArray
  ∧ H' = [blk b1 75 [.pointer (some ⟨pb, 0, none⟩)]]) := by
 refine SpecR.of (fun w _ => ?_)
 refine Calls.enter Tryz.func94 rfl rfl rfl (St.rebase w) ?_
 simp only [argSlots]
 refine Ws ?_
 (refine Wbx ?_; intro b1)
 refine Ws ?_
 refine ZomakeFunc (vs := [.pointer (some ⟨b1, 0, none⟩)]) ?_ (hc := by exact ⟨rfl, trivial⟩)
 refine Ws ?_
 refine Zfn [blk b1 75 [.pointer (some ⟨pb, 0, none⟩)]] (hq := ?_)
 exact ⟨b1, rfl, rfl⟩
theorem base_iterH (b1 pb d pv : Nat) (v : VS) (s : SP) (m : BM) (op : Bool) (hm : m.u.length = 512) (hv : v.ok) (hl : v.S.W.length ≤ 1000000) (h : Nat) (hh : h ≤ 5) (hsh : s.height = (h : Int)) (hg : h = 0 ∨ wkG v.S h s.addr) (hC : wkC v.S h s.addr ≤ 1000000) :
  IterH Tryz.prog 137 [.pointer (some ⟨b1, 0, none⟩)] (baseS pb d pv v s m op) (baseC b1 pb d pv v s m op) (fun _ => baseC b1 pb d pv v s m op) (baseC b1 pb d pv v s m op) (rowsW (wkE v.S h s.addr)) := by
 refine IterH.of (fun w0 l I J hY w h0 hw => ?_)
 rw [rowsW_length]
 simp only [baseC, baseS, cAp, nAp] at hw hY ⊢
 refine Calls.enterM Tryz.func137 rfl rfl rfl hw ?_
 simp only [argSlots]
 refine Wap ?_
 refine Ws ?_
 (refine Wbx ?_; intro b2)
 refine Ws ?_
 refine Zd (base_may pb d pv s m op false hm) ?_
 refine Ws ?_
 refine Zz 9 false ?_
 refine Ws ?_
 have hwe := walk_Entries (some pv) s.addr s.height
 refine Wm [blk b1 75 [.pointer (some ⟨pb, 0, none⟩)], blk pb 161 (baseL d pv s m op false)] ?_
 refine Wq [0, 1, 2] ?_
 refine Zm 3 (h := fun _ _ qK => by exact Zl qK (hv := by exact baseL_v hm)) (k := ?_)
 refine Wq [4, 5, 6, 7] ?_
 refine Zm 8 (h := fun _ _ qK => by exact Zlg (ys := rootL s.addr s.height) qK (hv := by exact baseL_root) (hl := by rfl)) (k := ?_)
 refine ZA 9 ?_
 refine Zcr hwe ?_
 rintro r2 H2 ⟨pw, b3, b4, rfl, rfl⟩
 refine Wap ?_
 refine Zw ?_
 refine ZE ?_
 refine Ws ?_
 have hit := entries_iterH pw pv d b3 b4 v hv hl h s.addr hh hg 0 (by omega)
 rw [← hsh] at hit
 simp only [walkCH] at hit
 generalize wkE v.S h s.addr = ES at hit hY ⊢
 refine TriR.rangeH (Sh := [DSK d v.S]) (α := { k : Nat // k ≤ ES.length }) (β := { k : Nat // k < ES.length }) (γ := Nat) (fun x => x.1) (fun y => y.1)
  (fun x => [I x.1, blk b1 75 [.pointer (some ⟨pb, 0, none⟩)], blk b2 229 [.func (.yield l) #[] #[]], blk pb 161 (baseL d pv s m op false)]) ⟨0, Nat.zero_le _⟩ (fun _ => .ret)
  (fun x => [J x.1, blk b1 75 [.pointer (some ⟨pb, 0, none⟩)], blk pb 161 (baseL d pv s m op false)])
  (fun x z => [(1, .pointer (some ⟨b1, 0, none⟩)), (2, .pointer (some ⟨b2, 0, none⟩)), (4, .pointer (some ⟨z, 0, none⟩)), (5, .int .i64 0)])
  (fun x z => blk z 40 (entL (ES.getD x.1 ent0)) :: [I x.1, blk b1 75 [.pointer (some ⟨pb, 0, none⟩)], blk b2 229 [.func (.yield l) #[] #[]], blk pb 161 (baseL d pv s m op false), DSK d v.S])
  hit rfl rfl Wps ?_ ?_ ?_ ?_ ?_ ?_
 ·intro y hy
  obtain ⟨k, _, rfl⟩ := List.mem_map.1 hy
  rfl
 ·intro q hq
  simp at hq
  rcases hq with rfl | rfl <;> rfl
 ·intro lp x vs hvs hq
  obtain ⟨e, he, rfl⟩ := rowsW_of hvs
  have hed : ES.getD x.1 ent0 = e := by rw [gDe, he]; rfl
  rw [hed]
  simp only [zipL]
  refine Wap ?_
  refine Ws ?_
  refine Zal fun b11 => ?_
  refine Ws ?_
  refine ZSa (ys := entL e) ?_ (h1 := by exact entL_one5 e)
  refine Wo ?_
  exact Zrc b11
 ·rintro lp ⟨k, hk⟩ vs hvs b11 hq
  obtain ⟨e, he, rfl⟩ := rowsW_of hvs
  (try dsimp only at he)
  have hed : ES.getD k ent0 = e := by rw [gDe, he]; rfl
  have hkl : k < ES.length := (List.getElem?_eq_some_iff.1 he).1
  have hkl' : k + 1 ≤ ES.length := hkl
  refine Wap ?_
  rw [hed]
  refine Ws ?_
  ((with_reducible apply TriR.quietTail 5); (case hB => kernel_rfl); (case hnd => rfl); (dsimp only [List.take, List.drop]))
  refine Wqs ?_
  refine Zqo (h := fun _ qK => by exact Zla (cs := entL e) qK (hl := by rfl)) (k := ?_)
  refine Wqs ?_
  refine Zqo (h := fun _ qK => by exact Zcv (base_stoppedR (.pointer (some ⟨pb, 0, none⟩)) 0 (by decide)) qK) (k := ?_)
  refine Wqs ?_
  refine Tri.star [I k, blk pb 161 (baseL d pv s m op false), DSK d v.S] Wps ?_
  ((with_reducible apply TriR.yield (hy := hY k _ hvs)); (case hx => rfl); (case hargs => (repeat (first | exact evs.nil | (apply evs.cons; (case a => rfl))))); (case hn => rfl); (case p => (first | ((repeat (first | with_reducible exact Pull.head | with_reducible apply Pull.tail)); done) | (repeat (first | exact Pull.head | apply Pull.tail)))))
  ·refine Tri.unstar Wp ?_
   refine Wap ?_
   refine Ws ?_
   refine Zz 32 false ?_
   refine Ws ?_
   ((with_reducible apply Tri.rdEndS (y := ⟨k + 1, hkl'⟩)); (case hk => rfl); (case p => ((try dsimp only [cAp, nAp]); (repeat (first | exact Pulls.nil | (apply Pulls.cons; (case a => (first | ((repeat (first | with_reducible exact Gv.Pull.head | with_reducible apply Gv.Pull.tail)); done) | (repeat (first | exact Gv.Pull.head | apply Gv.Pull.tail))))))))))
  ·refine Tri.unstar Wp ?_
   refine Wap ?_
   refine Ws ?_
   refine Zz 32 true ?_
   refine Ws ?_
   ((with_reducible apply Tri.rdRetS (y := ⟨k, hkl⟩)); (case hj => exact ⟨rfl, rfl⟩); (case p => ((try dsimp only [cAp, nAp]); (repeat (first | exact Pulls.nil | (apply Pulls.cons; (case a => (first | ((repeat (first | with_reducible exact Gv.Pull.head | with_reducible apply Gv.Pull.tail)); done) | (repeat (first | exact Gv.Pull.head | apply Gv.Pull.tail))))))))))
 ·rintro D ⟨k, hk⟩ hy
  have hkE : k = ES.length := by rw [← rowsW_length ES]; exact hy
  subst hkE
  refine Wap ?_
  refine Ws ?_
  (first | with_reducible apply Tri.finM1 | with_reducible apply Tri.finM1N)
  case p => exact Wp
  case hr => rfl
  case h => exact ResL.nil
  exact fun w' hw' => .inl ⟨(hw'.pulls (As := [I ES.length, blk pb 161 (baseL d pv s m op false), DSK d v.S, blk b1 75 [.pointer (some ⟨pb, 0, none⟩)], blk pv 146 (viewL d v), Ex h0]) Wps).1, Sat.left (hw'.pulls Wps).2⟩
 ·rintro D ⟨k, hk⟩ hy
  refine Wap ?_
  refine Ws ?_
  (first | with_reducible apply Tri.finM1 | with_reducible apply Tri.finM1N)
  case p => exact Wp
  case hr => rfl
  case h => exact ResL.nil
  exact fun w' hw' => .inr ⟨k, hk, (hw'.pulls (As := [J k, blk pb 161 (baseL d pv s m op false), DSK d v.S, blk b1 75 [.pointer (some ⟨pb, 0, none⟩)], blk pv 146 (viewL d v), Ex h0]) Wps).1, Sat.left (hw'.pulls Wps).2⟩
def chL (S : DS) (x : ENT) : List Value := [.int .i64 x.key.1, .int .i64 x.key.2, .int .i64 x.fin, .string ⟨(txE S x).toArray⟩]
def CL (S : DS) (E : List ENT) : List Value := E.flatMap (chL S)
theorem CL_app (S : DS) (E F : List ENT) : CL S (E ++ F) = CL S E ++ CL S F := by simp [CL]
theorem chL_one (S : DS) (x : ENT) : ∀ y ∈ chL S x, y.oneCell' = true := by
 intro y hy
 simp only [chL, List.mem_cons, List.mem_nil_iff, or_false] at hy
 rcases hy with rfl | rfl | rfl | rfl <;> rfl
set_option maxRecDepth 4000 in
theorem law16_all (pb d pv : Nat) (v : VS) (s : SP) (m : BM) (op : Bool) (hm : m.u.length = 512) (hv : v.ok) (hon : v.S.on) (hA : v.S.A.length % 256 = 0) (hl : v.S.W.length ≤ 1000000) (h : Nat) (hh : h ≤ 5) (hsh : s.height = (h : Int)) (hg : h = 0 ∨ wkG v.S h s.addr) (hC : wkC v.S h s.addr ≤ 1000000) (hgen : s.gen ≠ 0) (hlen : (wkE v.S h s.addr).length ≤ 1000000) (ht : ∀ x ∈ wkE v.S h s.addr, TxE v.S x) :
  Gv.Spec Tryz.prog 39 #[.pointer (some ⟨pb, 0, none⟩)] [blk pb 161 (baseL d pv s m op false), blk pv 146 (viewL d v), DSK d v.S]
  (fun r H' => ∃ A c, r = .tuple #[.slice A (wkE v.S h s.addr).length c, .bool true] ∧ H' = [blk pb 161 (baseL d pv s m op false), blk pv 146 (viewL d v), DSK d v.S, own 102 4 (.slice A (wkE v.S h s.addr).length c) (wkE v.S h s.addr).length (CL v.S (wkE v.S h s.addr))]) := by
 refine Gv.Spec.of (fun w h0 hw => ?_)
 refine Calls.enterM Tryz.func39 rfl rfl rfl hw ?_
 simp only [argSlots]
 refine Wap ?_
 have hit := fun bx => base_iterH bx pb d pv v s m op hm hv hl h hh hsh hg hC
 generalize wkE v.S h s.addr = ES at hit hlen ht ⊢
 refine Ws ?_
 (refine Wbx ?_; intro b1)
 refine Ws ?_
 refine Zal fun b2 => ?_
 refine Ws ?_
 refine Zal fun b3 => ?_
 refine Ws ?_
 refine Zal fun b4 => ?_
 refine Ws ?_
 refine Zz 11 false ?_
 refine Ws ?_
 refine Zd (base_Super pb d pv s m op false) ?_
 refine Ws ?_
 refine Zv 13 (.agg (spL s).toArray) ?_ (hv := by rfl)
 refine Zofield (t := 22) (v := .int .u64 (s.gen : Int)) ?_ (hu := by exact Tryz.underlying83)
 refine Ws ?_
 refine Zz 16 false ?_ (hi := by exact dFf (by omega))
 refine Ws ?_
 refine Zcr (base_Entries pb) ?_
 rintro r2 H2 ⟨bx, rfl, rfl⟩
 refine Wap ?_
 refine Ws ?_
 have hit := hit bx
 simp only [baseC, baseS] at hit
 (with_reducible apply Tri.ownNil 102 4)
 refine Zat (own 102 4 (.slice none 0 0) 0 []) (own 102 4 (.slice none 0 0) 0 (CL v.S (ES.take 0))) ?_
 refine TriR.rangeH (Sh := [blk pb 161 (baseL d pv s m op false), DSK d v.S]) (α := Σ' (k : Nat) (_ : Option Addr) (_ : Nat), k ≤ ES.length) (β := Empty) (γ := Nat) (fun x => x.1) (fun y => y.elim)
  (fun x => [blk b1 75 [.pointer (some ⟨pb, 0, none⟩)], blk b4 94 [.slice x.2.1 x.1 x.2.2.1], own 102 4 (.slice x.2.1 x.1 x.2.2.1) x.1 (CL v.S (ES.take x.1))]) ⟨0, none, 0, Nat.zero_le _⟩ (fun _ => .ret)
  (fun x => [])
  (fun x z => [(1, .pointer (some ⟨b1, 0, none⟩)), (4, .pointer (some ⟨b4, 0, none⟩)), (5, .pointer (some ⟨z, 0, none⟩)), (6, .int .i64 0)])
  (fun x z => blk z 40 (entL (ES.getD x.1 ent0)) :: [blk b1 75 [.pointer (some ⟨pb, 0, none⟩)], blk b4 94 [.slice x.2.1 x.1 x.2.2.1], own 102 4 (.slice x.2.1 x.1 x.2.2.1) x.1 (CL v.S (ES.take x.1)), blk pb 161 (baseL d pv s m op false), DSK d v.S])
  hit rfl rfl Wps ?_ ?_ ?_ ?_ ?_ ?_
 ·intro y hy
  obtain ⟨k, _, rfl⟩ := List.mem_map.1 hy
  rfl
 ·intro q hq
  simp at hq
  rcases hq with rfl | rfl <;> rfl
 ·intro lp x vs hvs hq
  obtain ⟨e, he, rfl⟩ := rowsW_of hvs
  have hed : ES.getD x.1 ent0 = e := by rw [gDe, he]; rfl
  rw [hed]
  simp only [zipL]
  refine Wap ?_
  refine Ws ?_
  refine Zal fun b11 => ?_
  refine Ws ?_
  refine ZSa (ys := entL e) ?_ (h1 := by exact entL_one5 e)
  refine Wo ?_
  exact Zrc b11
 ·rintro lp ⟨k, A, c, hk⟩ vs hvs b11 hq
  obtain ⟨e, he, rfl⟩ := rowsW_of hvs
  (try dsimp only at he)
  have hed : ES.getD k ent0 = e := by rw [gDe, he]; rfl
  have hkl : k < ES.length := (List.getElem?_eq_some_iff.1 he).1
  have hkl' : k + 1 ≤ ES.length := hkl
  have hte := ht e (List.mem_of_getElem? he)
  have hby := base_Bytes pb d pv v.S s m op e hm hv.S hon.2.1 hA hl hte
  have htk : CL v.S (ES.take k) ++ chL v.S e = CL v.S (ES.take (k + 1)) := by
   rw [List.take_add_one, he, CL_app]; simp [CL]
  refine Wap ?_
  rw [hed]
  refine Ws ?_
  refine Zz 22 false ?_
  refine Ws ?_
  refine Zla (cs := entL e) ?_ (hl := by rfl)
  refine Ws ?_
  refine Zcs hby ?_
  rintro r3 H3 ⟨At, h1, rfl, hrd, hln, rfl⟩
  refine Wap ?_
  refine Ws ?_
  refine Zz 30 false ?_
  refine Ws ?_
  refine Zbs (l := txE v.S e) ?_ (he := by exact Tryz.underlying5) (hr := by exact rdw_ex Wp hrd)
  refine Ws ?_
  refine Zbu (ys := chL v.S e) ?_
  refine Ws ?_
  (refine Zli (ys := chL v.S e) ?_; intro vl)
  refine Ws ?_
  refine Zap (m2 := 1) (news := chL v.S e) ?_ (hr := by exact rdw_own (v := vl) Wp) (hl := by rfl) (h1 := by exact chL_one v.S e)
  intro vr
  (refine Tri.shape (e := 102) (size := 4) (v := vr) Wp ?_; rintro ⟨A2, c2, rfl⟩)
  refine Ws ?_
  refine ZS ?_ (hi := by exact (by decide : 0 < 1))
  refine Zat (own 102 4 (.slice A2 (k + 1) c2) _ _) (own 102 4 (.slice A2 (k + 1) c2) (k + 1) (CL v.S (ES.take (k + 1)))) ?_ (e := by rw [htk])
  refine Zat (blk b4 _ _) (blk b4 94 [.slice A2 (k + 1) c2]) ?_
  refine Ws ?_
  ((with_reducible apply Tri.rdEndS (y := ⟨k + 1, A2, c2, hkl'⟩)); (case hk => rfl); (case p => ((try dsimp only [cAp, nAp]); (repeat (first | exact Pulls.nil | (apply Pulls.cons; (case a => (first | ((repeat (first | with_reducible exact Gv.Pull.head | with_reducible apply Gv.Pull.tail)); done) | (repeat (first | exact Gv.Pull.head | apply Gv.Pull.tail))))))))))
 ·rintro D ⟨k, A, c, hk⟩ hy
  have hkE : k = ES.length := by rw [← rowsW_length ES]; exact hy
  have htk2 : ES.take k = ES := List.take_of_length_le (by omega)
  refine Wap ?_
  rw [htk2]
  refine Ws ?_
  refine ZS ?_ (hi := by exact (by decide : 0 < 1))
  refine Ws ?_
  refine ZS ?_ (hi := by exact (by decide : 0 < 1))
  refine Ws ?_
  subst hkE
  ((first | with_reducible apply Tri.finM1 | with_reducible apply Tri.finM1N); (case p => (first | ((repeat (first | with_reducible exact Pull.head | with_reducible apply Pull.tail)); done) | (repeat (first | exact Pull.head | apply Pull.tail)))); (case hr => rfl); (case h => exact ResL.cons (Res1.cell rfl Wp rfl) (ResL.cons (Res1.cell rfl Wp rfl) (ResL.nil))); (apply fin_R (Hn := [blk pb 161 (baseL d pv s m op false), blk pv 146 (viewL d v), DSK d v.S, own 102 4 (.slice A ES.length c) ES.length (CL v.S ES)])); (case p => exact (by (repeat (first | exact Pulls.nil | (apply Pulls.cons; (case a => (first | ((repeat (first | with_reducible exact Gv.Pull.head | with_reducible apply Gv.Pull.tail)); done) | (repeat (first | exact Gv.Pull.head | apply Gv.Pull.tail))))))))); exact ⟨A, c, rfl, rfl⟩)
 ·rintro D ⟨⟩
theorem baseL_one (d pv : Nat) (s : SP) (m : BM) (op en : Bool) : ∀ y ∈ baseL d pv s m op en, y.oneCell' = true := by
 intro y hy
 rw [baseL] at hy
 rcases List.mem_append.1 hy with h | h
 ·exact tabL_one y h
 ·rcases List.mem_cons.1 h with rfl | h
  ·rfl
  ·rcases List.mem_append.1 h with h | h
   ·exact spL_one s y h
   ·rcases List.mem_append.1 h with h | h
    ·exact bmL_one m y h
    ·simp only [baseT, List.mem_cons, List.mem_nil_iff, or_false] at h
     rcases h with rfl | rfl | rfl <;> rfl
set_option maxRecDepth 4000 in
theorem txn_Commit (pt pb tv d pv : Nat) (v : VS) (a : Int) (h : Nat) (s : SP) (m m1 m2 : BM) (op : Bool) (t : Nat) (G : CmG v s m m1 m2 a h t) :
  Gv.Spec Tryz.prog 32 #[.pointer (some ⟨pt, 0, none⟩)] [blk pt 163 (txL pb tv a (h : Int) false), blk pb 161 (baseL d pv s m op false), blk tv 146 (viewL d v), DSK d v.S]
  (fun r H' => ∃ pv', r = .int .i64 0 ∧ H' = [blk pt 163 (txL pb tv a (h : Int) true), blk pb 161 (baseL d pv' (spN s a h t) m2 false false), blk pv' 146 (viewL d ⟨cmS v.S (spN s a h t) m2, s.gen + 1, m2, m2⟩), DSK d (cmS v.S (spN s a h t) m2)]) := by
 obtain ⟨hv, hl, hm, hm1, hm2, hg, gv, tk, e1, e2, o2, l2, e3, o3, l3, e4, o4, rm, pm⟩ := G
 refine Gv.Spec.of (fun w h0 hw0 => ?_)
 refine Calls.enter Tryz.func32 rfl rfl rfl hw0 ?_
 simp only [argSlots]
 refine Wap ?_
 have hgv := bm_Give v.m s.bitmap 1 hv.m
 rw [gv] at hgv
 have htk := bm_Take m1 m 1 hm1 hm
 rw [tk] at htk
 obtain ⟨s', hs'⟩ : ∃ s', s' = spN s a h t := ⟨_, rfl⟩
 have hgs : s'.gen = s.gen + 1 := by rw [hs']; rfl
 have hcm : cmS v.S s' m2 = (wrS (wrPg v.S (mpP (t : Int) (s.gen + 1) m2)).1.fl.1 s').1.fl.1 := by rw [hs']; rfl
 rw [← hs'] at e3 o3 l3 e4 o4 pm ⊢
 rw [hcm] at o4 pm ⊢
 have hpl : (putM m2).length ≤ 1000000 := by
  have hr := rightM_spec rm
  rw [putM, if_pos rm, putTo_length]; omega
 have hwm := txn_writeMap d v.S (t : Int) (s.gen + 1) m2 hm2 hg hv.S (by omega) hpl
 have o1 := wrPg_ok hv.S (mpP (t : Int) (s.gen + 1) m2)
 have l1 := wrPg_len v.S (mpP (t : Int) (s.gen + 1) m2)
 obtain ⟨R1, hR1⟩ : ∃ R1, R1 = wrPg v.S (mpP (t : Int) (s.gen + 1) m2) := ⟨_, rfl⟩
 rw [← hR1] at hwm e1 e2 o2 l2 e3 o3 l3 e4 o4 pm o1 l1 ⊢
 have hf1 := disk_FlushD d R1.1 o1 (by omega)
 obtain ⟨R2, hR2⟩ : ∃ R2, R2 = R1.1.fl := ⟨_, rfl⟩
 rw [← hR2] at hf1 e2 o2 l2 e3 o3 l3 e4 o4 pm ⊢
 have hsw := super_Write d R2.1 s' (by omega) o2 (by omega)
 obtain ⟨R3, hR3⟩ : ∃ R3, R3 = wrS R2.1 s' := ⟨_, rfl⟩
 rw [← hR3] at hsw e3 o3 l3 e4 o4 pm ⊢
 have hf2 := disk_FlushD d R3.1 o3 (by omega)
 obtain ⟨R4, hR4⟩ : ∃ R4, R4 = R3.1.fl := ⟨_, rfl⟩
 rw [← hR4] at hf2 e4 o4 pm ⊢
 rw [← hgs] at o4
 have hba := txn_based d R4.1 s' m2 o4 rm pm
 rw [hgs] at hba
 refine Ws ?_
 refine Zd (txn_may pt pb tv d pv a (h : Int) false s m op false hm) ?_
 refine Ws ?_
 refine Zz 17 false ?_
 refine Ws ?_
 refine Wm [blk pt 163 (txL pb tv a (h : Int) false), blk pb 161 (baseL d pv s m op false)] ?_
 refine Wq [0, 1, 2, 3, 5, 6, 7, 8] ?_
 refine Zm 9 (h := fun _ _ qK => by exact Zl qK (hv := by exact baseL_bit)) (k := ?_)
 refine ZA2 4 14 ?_ ?_
 refine Zd (view_Map tv d v hv) ?_
 refine Zw ?_
 refine Zm 10 (h := fun _ _ qK => by exact Zcv hgv qK) (k := ?_)
 refine Wq [11, 12, 13] ?_
 refine ZA 14 ?_
 refine Zal fun b5 => ?_
 refine Zw ?_
 refine ZA 15 ?_
 refine ZSa (ys := bmL m1) ?_ (hl := by exact bmL_len hm1) (hc := by exact z513g) (h1 := by exact bmL_one _)
 refine Zw ?_
 refine Wq [16] ?_
 refine ZE ?_
 refine Ws ?_
 refine Zz 38 false ?_
 rotate_left
 refine Zal fun b5 => ?_
 refine Zw ?_
 refine ZA 4 ?_
 refine Zd (view_Map tv d v hv) ?_
 refine Zw ?_
 refine Zm 10 (h := fun _ _ qK => by exact Zcv hgv qK) (k := ?_)
 refine Wq [11, 12, 13] ?_
 refine ZA 15 ?_
 refine ZSa (ys := bmL m1) ?_ (hl := by exact bmL_len hm1) (hc := by exact z513g) (h1 := by exact bmL_one _)
 refine Zw ?_
 refine Wq [16] ?_
 refine ZE ?_
 refine Ws ?_
 refine Zz 38 false ?_
 rotate_left
 all_goals
  refine Ws ?_
  refine Znm 10 [blk pb 161 (baseL d pv s m op false)] [blk pb 161 (baseL d pv s m op false), blk b5 60 (bmL m1)] ?_
  refine Zn 0 (h := fun _ _ qK => by exact Zla (cs := bmL m1) qK (hl := by exact bmL_len hm1)) (k := ?_)
  refine Wnq [1, 2, 3] ?_
  refine Zn 4 (h := fun _ _ qK => by exact Zlg qK (hv := by exact baseL_m hm) (hl := by exact bmL_len hm)) (k := ?_)
  refine Zn 5 (h := fun _ _ qK => by exact Zcv htk qK) (k := ?_)
  refine Wnq [6, 7] ?_
  refine Wnp [8, 9] ?_
  refine Znl ?_
  refine ZSa (ys := bmL m2) ?_ (hl := by exact bmL_len hm2) (hc := by exact bmL_len hm1) (h1 := by exact bmL_one _)
  refine Zw ?_
  refine Wq [11, 12] ?_
  refine ZE ?_
  refine Ws ?_
  refine Zz 51 false ?_
  refine Ws ?_
  refine Wm [blk pt 163 (txL pb tv a (h : Int) false), blk pb 161 (baseL d pv s m op false)] ?_
  refine Wq [0, 1, 2, 3] ?_
  refine Zm 4 (h := fun _ _ qK => by exact Zl qK (hv := by exact baseL_gen)) (k := ?_)
  refine Wq [5, 6, 7, 8] ?_
  refine ZMi 60 ((s.gen + 1 : Nat) : Int) ?_ (hi := by exact (wrap_u64 (by omega)).trans (by omega))
  refine Zm 9 (h := fun _ _ qK => by exact Zlg (ys := rootL a (h : Int)) qK (hl := by rfl)) (k := ?_)
  refine Wq [10, 11, 12, 13, 14] ?_
  refine Zm 15 (h := fun _ _ qK => by exact Zl qK (hv := by exact baseL_pages)) (k := ?_)
  refine Zm 16 (h := fun _ _ qK => by exact Zbu (ys := [.int .u64 ((s.gen + 1 : Nat) : Int), .int .i64 a, .int .i64 (h : Int), .int .i64 (t : Int), .int .i64 s.pages]) qK) (k := ?_)
  refine ZA 17 ?_
  refine Zal fun b8 => ?_
  refine Zw ?_
  refine ZA 18 ?_
  refine ZSa (ys := [.int .u64 ((s.gen + 1 : Nat) : Int), .int .i64 a, .int .i64 (h : Int), .int .i64 (t : Int), .int .i64 s.pages]) ?_ (h1 := by exact spL_one ⟨s.gen + 1, a, (h : Int), (t : Int), s.pages⟩)
  refine Zw ?_
  refine ZE ?_
  (with_reducible refine Tri.thenN ?_)
  (refine Wme (α := Unit) (fun _ => [(0, .pointer (some ⟨pt, 0, none⟩)), (4, .pointer (some ⟨pb, 0, none⟩)), (5, .pointer (some ⟨b5, 0, none⟩)), (7, .int .i64 (t : Int)), (8, .pointer (some ⟨b8, 0, none⟩))]) (fun _ => [blk b8 83 (spL s'), blk b5 60 (bmL m2), blk pt 163 (txL pb tv a (h : Int) false), blk pb 161 (baseL d pv s m op false), blk tv 146 (viewL d v), DSK d v.S, Ex h0]) ?_ ?_; rotate_left; rintro x; (try dsimp only); rotate_left)
  ·refine Ws ?_
   by_cases h00 : h = 0
   ·have hsp : spL s' = [.int .u64 ((s.gen + 1 : Nat) : Int), .int .i64 0, .int .i64 0, .int .i64 (t : Int), .int .i64 s.pages] := by rw [hs', spN, if_pos h00, h00]; rfl
    refine Zz 75 true ?_ (hi := by exact dTt (by omega))
    refine Ws ?_
    refine ZSg (ys := [.int .i64 0, .int .i64 0]) ?_ (h1 := by exact two_int _ _) (hi := by exact (by decide : 1 + 2 ≤ 5))
    refine Zat (blk b8 _ _) (blk b8 83 (spL s')) ?_ (e := by rw [hsp]; rfl)
    refine Ws ?_
    exact Zrc ()
   ·have hsp : spL s' = [.int .u64 ((s.gen + 1 : Nat) : Int), .int .i64 a, .int .i64 (h : Int), .int .i64 (t : Int), .int .i64 s.pages] := by rw [hs', spN, if_neg h00]; rfl
    refine Zz 75 false ?_ (hi := by exact dFf (by omega))
    refine Ws ?_
    refine Zat (blk b8 _ _) (blk b8 83 (spL s')) ?_ (e := by rw [hsp])
    exact Zrc ()
  ·refine Ws ?_
   refine Wm [blk pb 161 (baseL d pv s m op false), blk b8 83 (spL s'), blk b5 60 (bmL m2)] ?_
   refine Wq [0, 1, 2] ?_
   refine Zm 3 (h := fun _ _ qK => by exact Zlg qK (hv := by exact baseL_tab d pv s m op false) (hl := by exact tabL_length)) (k := ?_)
   refine Wq [4, 5, 6] ?_
   refine Zm 7 (h := fun _ _ qK => by exact Zl qK (hv := by exact baseL_d)) (k := ?_)
   refine Wq [8, 9] ?_
   refine Zm 10 (h := fun _ _ qK => by exact Zl (v := .int .u64 ((s.gen + 1 : Nat) : Int)) qK (hv := by rw [hs']; rfl)) (k := ?_)
   refine Zm 11 (h := fun _ _ qK => by exact Zla (cs := bmL m2) qK (hl := by exact bmL_len hm2)) (k := ?_)
   refine ZA 12 ?_
   refine Zd hwm ?_
   refine Zw ?_
   refine Wq [13] ?_
   refine ZE ?_
   refine Ws ?_
   refine Zz 92 false ?_ (hi := by rw [e1]; rfl)
   refine Ws ?_
   refine Zd hf1 ?_
   refine Ws ?_
   refine Zz 102 false ?_ (hi := by rw [e2]; rfl)
   refine Ws ?_
   refine Wm [blk pb 161 (baseL d pv s m op false), blk b8 83 (spL s')] ?_
   refine Wq [0, 1, 2] ?_
   refine Zm 3 (h := fun _ _ qK => by exact Zlg qK (hv := by exact baseL_tab d pv s m op false) (hl := by exact tabL_length)) (k := ?_)
   refine Wq [4, 5, 6] ?_
   refine Zm 7 (h := fun _ _ qK => by exact Zl qK (hv := by exact baseL_d)) (k := ?_)
   refine Zm 8 (h := fun _ _ qK => by exact Zla (cs := spL s') qK (hl := by rfl)) (k := ?_)
   refine ZA 9 ?_
   refine Zd hsw ?_
   refine Zw ?_
   refine Wq [10] ?_
   refine ZE ?_
   refine Ws ?_
   refine Zz 117 false ?_ (hi := by rw [e3]; rfl)
   refine Ws ?_
   refine Zd hf2 ?_
   refine Ws ?_
   refine Zz 127 false ?_ (hi := by rw [e4]; rfl)
   refine Ws ?_
   refine Wm [blk pb 161 (baseL d pv s m op false), blk b8 83 (spL s'), blk b5 60 (bmL m2)] ?_
   refine Wq [0, 1, 2] ?_
   refine Zm 3 (h := fun _ _ qK => by exact Zlg qK (hv := by exact baseL_tab d pv s m op false) (hl := by exact tabL_length)) (k := ?_)
   refine Wq [4, 5, 6] ?_
   refine Zm 7 (h := fun _ _ qK => by exact Zl qK (hv := by exact baseL_d)) (k := ?_)
   refine Zm 8 (h := fun _ _ qK => by exact Zla (cs := spL s') qK (hl := by rfl)) (k := ?_)
   refine Zm 9 (h := fun _ _ qK => by exact Zla (cs := bmL m2) qK (hl := by exact bmL_len hm2)) (k := ?_)
   refine ZA 10 ?_
   refine Zcs hba ?_
   rintro r9 H9 ⟨pb2, pv2, rfl, rfl⟩
   refine Wap ?_
   refine Zw ?_
   refine Wq [11, 12, 13, 14, 15] ?_
   refine ZE ?_
   refine Ws ?_
   refine Zz 146 false ?_
   refine Ws ?_
   refine Zla (cs := baseL d pv2 s' m2 false false) ?_ (hl := by exact baseL_len hm2)
   refine Ws ?_
   refine ZSa (ys := baseL d pv2 s' m2 false false) ?_ (hl := by exact baseL_len hm2) (hc := by exact baseL_len hm) (h1 := by exact baseL_one _ _ _ _ _ _)
   refine Ws ?_
   refine ZS ?_ (hi := by exact (by decide : 4 < 5))
   refine Zat (blk pt _ _) (blk pt 163 (txL pb tv a (h : Int) true)) ?_
   refine Ws ?_
   exact Zfn [blk pt 163 (txL pb tv a (h : Int) true), blk pb 161 (baseL d pv2 s' m2 false false), blk pv2 146 (viewL d ⟨R4.1, s.gen + 1, m2, m2⟩), DSK d R4.1] (hq := by exact ⟨pv2, rfl, rfl⟩)
def mu4 (h : Nat) : Nat := if h = 1 then 4 else 1
theorem mu4_lim (h : Nat) : mu4 (h + 1) ≤ limN h := by
 rw [mu4, limN]
 by_cases c : h = 0
 ·rw [if_pos (by omega), if_pos c]; decide
 ·rw [if_neg (by omega), if_neg c]; decide
theorem low_sum {S : DS} {h : Nat} : ∀ (D : List Int), (∀ d ∈ D, 4 ≤ (wkE S h d).length) → 4 * D.length ≤ (D.flatMap (wkE S h)).length
 | [], _ => Nat.zero_le _
 | d :: D, hd => by
  have h1 := hd d (List.mem_cons_self ..)
  have h2 := low_sum D (fun z hz => hd z (mCm _ hz))
  rw [List.flatMap_cons, lAp, lCn]; omega
theorem low4 {S : DS} {k : Nat} : ∀ (h : Nat) (a : Int), tkG S k mu4 h (mu4 h) a → 4 ≤ (wkE S h a).length
 | 0, _, g => g.elim
 | h + 1, a, g => by
  obtain ⟨_, _, _, g3, ⟨g4, g5, g6⟩, g7, g8⟩ := g
  rw [wkE, lAp]
  by_cases h0 : h = 0
  ·subst h0
   have : 4 ≤ (rdN S a (decide (0 = 0))).E.length := g5
   omega
  ·rw [dFf h0] at g4 g7 ⊢
   have h1 : 1 ≤ (rdN S a false).D.length := g4
   have h2 := low_sum _ (fun d hd => low4 h d (g7 d hd))
   omega
theorem ti_low {k : Nat} {O R : List Nat} {v : VS} {a : Int} {h : Nat} {E : List ENT} (ti : TI k mu4 O R v a h E) (hE : E.length ≤ 7) : h ≤ 1 := by
 rcases ti.g with h0 | g
 ·omega
 ·rcases h with _ | _ | h
  ·omega
  ·omega
  ·have hEe := ti.ents
   obtain ⟨_, _, _, g3, ⟨g4, g5, g6⟩, g7, g8⟩ := g
   have hd1 : decide (h + 1 = 0) = false := rfl
   rw [hd1] at g5 g7
   have h1 : 2 ≤ (rdN v.S a false).D.length := by
    rw [rmin, if_neg (by omega)] at g5
    exact g5
   have h2 := low_sum _ (fun d hd => low4 (h + 1) d (g7 d hd))
   rw [wkE, hd1] at hEe
   have h3 := congrArg List.length hEe
   rw [lAp] at h3
   omega
def gX : ENT := ⟨(1, 5), 6, 2, 9, 2, 0, 0⟩
theorem fre_all (k : Nat) (h : 2 ≤ k) : Fre k [] [] (k - 2) := by
 refine ⟨List.range' 2 (k - 2), List.length_range', List.nodup_range', fun i hi => ⟨?_, List.not_mem_nil, List.not_mem_nil⟩⟩
 have := List.mem_range'_1.1 hi
 omega
theorem fre_cons {k n : Nat} : ∀ U : List Nat, Fre k [] [] (n + U.length) → Fre k U [] n
 | [], h => h
 | t :: U, h => Fre.cons (fre_cons U (by rw [lCn] at h; rw [show n + 1 + U.length = n + (U.length + 1) by omega]; exact h))
theorem fre_few {k n : Nat} {U O : List Nat} (h : n + U.length + O.length + 2 ≤ k) : Fre k U O n := by
 obtain ⟨l, h1, h2, h3⟩ := fre_cons (n := n) (U ++ O) ((fre_all k (by omega)).le (by rw [lAp]; omega))
 exact ⟨l, h1, h2, fun i hi => ⟨(h3 i hi).1, fun c => (h3 i hi).2.1 (mAl _ c), fun c => (h3 i hi).2.1 (mAr _ c)⟩⟩
theorem wkC_pg (S : DS) : ∀ (h : Nat) (a : Int), wkC S h a = (pgN S h a).length
 | 0, _ => rfl
 | h + 1, a => by
  rw [wkC, pgN, lCn, Nat.add_comm]
  congr 1
  have e : wkC S h = fun d => (pgN S h d).length := funext (wkC_pg S h)
  rw [e, List.length_flatMap]
theorem pg_one (S : DS) (a : Int) : (pgN S 1 a).length = 1 := by
 have e : (rdN S a (decide (0 = 0))).D.flatMap (pgN S 0) = [] := by
  rw [List.flatMap_eq_nil_iff]; intro d _; rfl
 rw [pgN, e]; rfl
theorem fm_cmt {k : Nat} (mu : Nat → Nat) (h : 8 ≤ k ∧ k ≤ 512) : CMT k mu (fmS k) (spF k) (fm1 k) 2 0 [] :=
 ⟨(fm_spec h).cm, rfl, rfl, .inl rfl, rfl, ⟨List.Pairwise.nil, (fun e he => by cases he)⟩, by decide, (fun x hx => by cases hx)⟩
theorem fm_free {k : Nat} (h : 8 ≤ k ∧ k ≤ 512) : freeM (fm1 k) = k - 3 := by
 have := (fm_spec h).cm.mok.free
 simp only [lCn, List.length_nil] at this
 omega
def xS : ENT := ⟨(1, 0), 0, 0, 0, 1, 0, 0⟩
def tS : List UInt8 := [97, 98, 99]
theorem stays_spec {S : DS} {m : BM} {s : SP} {k : Nat} (c0 : CMT k mu4 S s m 2 0 []) (hk16 : 16 ≤ k) (hg1 : s.gen + 1 < 1000000000) (ha0 : s.addr = 0) : ∃ t m2 v2 a2 h2 t3 m3 m4, PutR k mu4 S s m 2 0 [] ⟨S, s.gen + 1, m, m⟩ s.addr 0 [] xS tS t m2 v2 a2 h2 ∧ CmG v2 s m m3 m4 a2 h2 t3 ∧
  CMT k mu4 (cmS v2.S (spN s a2 h2 t3) m4) (spN s a2 h2 t3) m4 t3 h2 [entT xS (t : Int) tS] ∧ txE (cmS v2.S (spN s a2 h2 t3) m4) (entT xS (t : Int) tS) = tS := by
 have X0 := c0.begin
 have hU : bsU S s 2 0 [] = [2] := rfl
 have hW0 : S.W.length = 0 := by rw [c0.cm.W]; rfl
 have htl : (tS.length + 255) / 256 = 1 := by decide
 rcases put_spec (x := xS) (text := tS) mu4_lim X0 (by decide) ⟨⟨by decide, by decide⟩, ⟨by decide, by decide⟩⟩ (by decide) with ⟨t, m2, v2, a2, h2, P⟩ | ⟨_, hno⟩ | ⟨t, m2, _, _, hF⟩
 ·have hE : insE [] (entT xS (t : Int) tS) = [entT xS (t : Int) tS] := rfl
  have X2 := P.xi
  rw [hE] at X2
  have hW := P.W
  rw [htl] at hW
  have hW' : v2.S.W.length ≤ 64 := by
   have e : (⟨S, s.gen + 1, m, m⟩ : VS).S.W.length = 0 := hW0
   rw [e] at hW
   exact hW
  rcases commit_spec X2 (Nat.le_trans hW' (by decide)) hg1 with ⟨t3, m3, m4, C, D, _, T⟩ | ⟨_, _, _, _, hF⟩
  ·exact ⟨t, m2, v2, a2, h2, t3, m3, m4, P, C, D, by rw [T _ (List.mem_singleton.2 rfl)]; exact P.txt⟩
  ·refine absurd (fre_few ?_) hF
   have hlow : h2 ≤ 1 := ti_low X2.ti (by show 1 ≤ 7; decide)
   have hp : (pgN v2.S h2 a2).length ≤ 1 := by
    rcases (show h2 = 0 ∨ h2 = 1 by omega) with q | q
    ·rw [q]; exact Nat.zero_le _
    ·rw [q, pg_one]; exact Nat.le_refl _
   have htx : (txs [entT xS (t : Int) tS]).length = 1 := by
    show (txP (entT xS (t : Int) tS) ++ []).length = 1
    rw [List.append_nil, txP, runL, List.length_range', nE_T, htl]
   rw [lAp, hU, htx]
   show 1 + ((pgN v2.S h2 a2).length + 1) + 1 + 2 ≤ k
   omega
 ·refine absurd (fun i h1 h2 => ?_) (hno 3 (by rw [htl]; omega))
  rw [htl] at h2
  have hi : i = 3 := by omega
  show bothAt m m i = false
  cases hb : bothAt m m i with
  | false => rfl
  | true =>
   rcases (both_use c0.cm.mok c0.cm.mok i).1 hb with q | q | q
   ·rw [hi] at q; exact absurd q (by decide)
   ·rw [hU, hi] at q; exact absurd q (by decide)
   ·rw [hU, hi] at q; exact absurd q (by decide)
 ·rcases hF with hF | hF
  ·refine absurd (fre_few ?_) hF
   rw [hU, htl]
   simp only [pgN, lAp, runL, List.length_range', lCn, List.length_nil, txs, List.flatMap_nil]
   omega
  ·cases hF
theorem CMT.walk {k : Nat} {mu : Nat → Nat} {S : DS} {s : SP} {m : BM} {b h : Nat} {E : List ENT} (c : CMT k mu S s m b h E) : (h = 0 ∨ wkG S h s.addr) ∧ wkC S h s.addr ≤ 1000000 ∧ (wkE S h s.addr).length ≤ 1000000 := by
 have hk := c.cm.k8
 have hf := c.cm.mok.free
 rw [bsU, lAp] at hf
 refine ⟨c.g.imp id (fun tg => tk_wkG hk.2 h (rmin h) s.addr tg), by rw [wkC_pg]; omega, ?_⟩
 rcases c.g with h0 | tg
 ·subst h0; exact Nat.zero_le _
 ·have h1 := tk_len h (rmin h) s.addr tg
  omega
theorem txn_PutX {k : Nat} {mu : Nat → Nat} {S0 : DS} {s : SP} {m : BM} {b h0 : Nat} {E0 : List ENT} {v : VS} {a : Int} {h : Nat} {E : List ENT} {x : ENT} {text : List UInt8} {t : Nat} {m2 : BM} {v2 : VS} {a2 : Int} {h2 : Nat} (hmu : ∀ h, mu (h + 1) ≤ limN h) (X : TXI k mu S0 s m b h0 E0 v a h E) (P : PutR k mu S0 s m b h0 E0 v a h E x text t m2 v2 a2 h2)
  (hok : entOk (entT x 2 text) = true) (hR : i64R x.key.2 ∧ i64R x.fin) (hc : chkE E x = 0) (hW : v.S.W.length ≤ 500000) (pt pb tv d pv : Nat) (op : Bool) (tx : Value) (h1 : PH) (hrd : Rd h1 tx text.length (B8 text)) :
  Gv.Spec Tryz.prog 38 #[.pointer (some ⟨pt, 0, none⟩), entV x, tx] [blk pt 163 (txL pb tv a (h : Int) false), blk pb 161 (baseL d pv s m op false), blk tv 146 (viewL d v), DSK d v.S, Ex h1]
  (fun r H' => r = .int .i64 0 ∧ H' = [blk pt 163 (txL pb tv a2 (h2 : Int) false), blk pb 161 (baseL d pv s m op false), blk tv 146 (viewL d v2), DSK d v2.S, Ex h1]) := by
 have T := P.mid
 have hv := X.ti.vg
 have hbd := (ent_bounds hok).2.1
 have hl : (entT x 2 text).len = (text.length : Int) := rfl
 rw [hl] at hbd
 have hpn : pagesE (text.length : Int) = (((text.length + 255) / 256 : Nat) : Int) := by rw [pagesE]; omega
 have hk := hv.k8
 have hfit := T.fit
 have hom : m.u.length = 512 := by rw [← X.old]; exact hv.o.len
 have hT := T.tk
 rw [X.old, ← hpn] at hT
 have hcr : (crcSum text).toNat < 4294967296 := (crcSum text).toNat_lt
 have hTW := T.W
 have hf := hv.m.free
 rw [lAp] at hf
 have hlen : (wkE v.S h a).length ≤ 1000000 := by
  rcases X.ti.g with q | tg
  ·subst q; exact Nat.zero_le _
  ·have h1 := tk_len h (rmin h) a tg
   omega
 refine txn_Put pt pb tv d pv v a h s m op x tx text h1 hrd m2 t v2 a2 h2 hv.ok (by omega) hom X.ti.h5 (X.ti.g.imp id (fun tg => tk_wkG hk.2 h (rmin h) a tg)) hlen hok (by rw [X.ti.ents]; exact hc) hT T.len T.rm T.p (by omega) T.w ?_ P.i
 exact iG_of hmu T.ti (entT_ok hok hfit.1 (by rw [hpn]; omega)) ⟨hR.1, hR.2, hcr⟩ (by omega)
theorem law16_allX {k : Nat} {mu : Nat → Nat} {S : DS} {s : SP} {m : BM} {b h : Nat} {E : List ENT} (c : CMT k mu S s m b h E) (pb d pv : Nat) (g : Nat) (hg : g < 1000000000) (op : Bool) :
  Gv.Spec Tryz.prog 39 #[.pointer (some ⟨pb, 0, none⟩)] [blk pb 161 (baseL d pv s m op false), blk pv 146 (viewL d ⟨S, g, m, m⟩), DSK d S]
  (fun r H' => ∃ A cc, r = .tuple #[.slice A E.length cc, .bool true] ∧ H' = [blk pb 161 (baseL d pv s m op false), blk pv 146 (viewL d ⟨S, g, m, m⟩), DSK d S, own 102 4 (.slice A E.length cc) E.length (CL S E)]) := by
 obtain ⟨w1, w2, w3⟩ := c.walk
 have hs := okS_spec c.cm.sok
 have hal := law16_all pb d pv ⟨S, g, m, m⟩ s m op c.cm.mok.len (c.cm.view g (by omega)).ok c.cm.on (by show S.A.length % 256 = 0; rw [c.cm.len, Nat.mul_mod_left]) (by show S.W.length ≤ _; rw [c.cm.W]; exact Nat.zero_le _) h c.h5 c.hh w1 w2 hs.1 w3 (by
  intro x hx
  have hx' : x ∈ wkE S h s.addr := hx
  rw [c.ents] at hx'
  exact c.tx x hx')
 have e : wkE (⟨S, g, m, m⟩ : VS).S h s.addr = E := c.ents
 rw [e] at hal
 exact hal
set_option maxRecDepth 4000 in
theorem law16_stays : SpecR Tryz.prog 30 #[] (fun _ => True) (fun r H' => r = .bool true ∧ H' = []) := by
 refine SpecR.of (fun w _ => ?_)
 refine Calls.enter Tryz.func30 rfl rfl rfl (St.rebase w) ?_
 simp only [argSlots]
 have h8 : 8 ≤ 16 ∧ 16 ≤ 512 := by decide
 have hfr := fm_free h8
 have hfo := fun d => txn_Format d 16 h8
 have c0 := fm_cmt mu4 h8
 have hs0 : spF 16 = ⟨1, 0, 0, 2, 16⟩ := rfl
 obtain ⟨S, hS⟩ : ∃ S, S = fmS 16 := ⟨_, rfl⟩
 obtain ⟨m, hm⟩ : ∃ m, m = fm1 16 := ⟨_, rfl⟩
 obtain ⟨s, hs⟩ : ∃ s, s = spF 16 := ⟨_, rfl⟩
 rw [← hS, ← hm, ← hs] at c0
 rw [← hm] at hfr
 simp only [← hS, ← hm, ← hs] at hfo
 rw [← hs] at hs0
 have hsg : s.gen = 1 := by rw [hs0]
 have hsa : s.addr = 0 := by rw [hs0]
 have hsh : s.height = 0 := by rw [hs0]
 obtain ⟨t, m2, v2, a2, h2, t3, m3, m4, P, C, D, T⟩ := stays_spec c0 (by decide) (by rw [hsg]; decide) hsa
 have hgen1 : (1 : Nat) = s.gen := hsg.symm
 refine Ws ?_
 refine Zcr (disk_NewD 16 h8) ?_
 rintro r1 H1 ⟨d, rfl, rfl⟩
 refine Wap ?_
 refine Ws ?_
 refine Zcs (hfo d) ?_
 rintro r2 H2 ⟨pb, pv, rfl, rfl⟩
 refine Wap ?_
 refine Ws ?_
 refine Zd (base_Free pb d pv s m false false c0.cm.mok.len) ?_
 refine Ws ?_
 have hbe := base_Begin pb d pv S s m (c0.cm.view (s.gen + 1) (by rw [hsg]; decide)).ok (c0.cm.mok.right h8) (by rw [c0.cm.div]; exact c0.cm.mok.p)
 refine Zcs hbe ?_
 rintro r4 H4 ⟨pt, tv, rfl, rfl⟩
 refine Wap ?_
 refine Ws ?_
 refine Zbu (ys := [.int .i64 1, .int .i64 0]) ?_
 refine Ws ?_
 refine Zbu (ys := entL xS) ?_
 refine Ws ?_
 (refine Zli (ys := B8 tS) ?_; intro vl)
 refine Ws ?_
 refine ZoconvSS ?_ (he := by exact Tryz.underlying5) (hm := by decide)
 refine Tri.open (A := ro vl 3 (B8 tS)) Wp (fun hx hrx => ?_)
 have hrx : Rd hx vl tS.length (B8 tS) := hrx
 have hE : insE [] (entT xS (t : Int) tS) = [entT xS (t : Int) tS] := rfl
 have X0 := c0.begin
 have hWS : S.W.length = 0 := by rw [c0.cm.W]; rfl
 have hput := txn_PutX mu4_lim X0 P (by decide) ⟨⟨by decide, by decide⟩, ⟨by decide, by decide⟩⟩ (by decide) (by show S.W.length ≤ 500000; rw [hWS]; decide) pt pb tv d pv true vl hx hrx
 refine Zat (blk pt _ _) (blk pt 163 (txL pb tv s.addr ((0 : Nat) : Int) false)) ?_ (e := by rw [hsh]; rfl)
 refine Ws ?_
 refine Zd hput ?_
 refine Ws ?_
 refine Zcs (txn_Commit pt pb tv d pv v2 a2 h2 s m m3 m4 true t3 C) ?_
 rintro r6 H6 ⟨pv2, rfl, rfl⟩
 refine Wap ?_
 refine Ws ?_
 have hDg : (spN s a2 h2 t3).gen = 2 := by show s.gen + 1 = 2; rw [hsg]
 obtain ⟨s2, hs2⟩ : ∃ s2, s2 = spN s a2 h2 t3 := ⟨_, rfl⟩
 rw [← hs2] at D T hDg
 obtain ⟨S2, hS2⟩ : ∃ S2, S2 = cmS v2.S s2 m4 := ⟨_, rfl⟩
 refine Zat (DSK d _) (DSK d S2) ?_ (e := by rw [hS2, hs2])
 rw [← hS2] at D T
 refine Zcs (txn_Mount d D.cm) ?_
 rintro r7 H7 ⟨pb2, pv3, rfl, rfl⟩
 refine Wap ?_
 refine Ws ?_
 refine Zcs (law16_allX D pb2 d pv3 s2.gen (by rw [hDg]; decide) false) ?_
 rintro r8 H8 ⟨A, cc, rfl, rfl⟩
 refine Wap ?_
 refine Ws ?_
 refine Zz 50 true ?_
 refine Ws ?_
 refine Zz 54 true ?_
 refine Ws ?_
 refine Zz 58 true ?_ (hi := by exact dTt (by rw [hfr]; rfl))
 refine Ws ?_
 refine Zz 62 true ?_
 refine Ws ?_
 refine Zz 66 true ?_
 refine Ws ?_
 refine Zz 70 true ?_
 refine Ws ?_
 refine Zz 74 true ?_
 refine Ws ?_
 refine Zz 77 true ?_
 refine Ws ?_
 refine Zz 82 true ?_
 refine Ws ?_
 have hcell : (CL S2 [entT xS (t : Int) tS])[0 * 4 + 3]? = some (.string ⟨tS.toArray⟩) := by
  show some (Value.string ⟨(txE S2 (entT xS (t : Int) tS)).toArray⟩) = _
  rw [T]
 refine Zix (j := 0) ?_ (hj := by rfl) (hlt := by exact Nat.one_pos)
 refine Ws ?_
 refine Zlo ?_ (hv := by exact hcell)
 refine Ws ?_
 refine Zz 89 true ?_ (hi := by exact dTt rfl)
 refine Ws ?_
 refine Zd (base_Super pb2 d pv3 s2 m4 false false) ?_
 refine Ws ?_
 refine Zv 91 (.agg (spL s2).toArray) ?_ (hv := by rfl)
 refine Zofield (t := 22) (v := .int .u64 (s2.gen : Int)) ?_ (hu := by exact Tryz.underlying83)
 refine Ws ?_
 refine Zz 0 true ?_ (hi := by exact dTt (by rw [hDg]; rfl))
 exact Zfr (hq := by simp only [tupled]; skip)
end Go.Proofs.YtcglabmlhljkmaaGreat
namespace Go.Proofs.YtcglabmlhljkmaaGreat
open Go Go.Shelf
def soR : Ren where
 f x := match x with
  | 189 => 73
  | 125 => 120
  | 257 => 119
  | 128 => 163
  | 129 => 164
  | 294 => 154
  | 295 => 155
  | 296 => 156
  | 297 => 157
  | 298 => 158
  | 299 => 159
  | 216 => 160
  | 300 => 161
  | 301 => 162
  | 328 => 189
  | 329 => 190
  | 330 => 191
  | 331 => 192
  | 332 => 193
  | 215 => 194
  | 343 => 207
  | n => n
 t x := match x with
  | 28 => 57
  | 3 => 3
  | 46 => 150
  | 0 => 0
  | 51 => 32
  | 53 => 22
  | 4 => 4
  | 183 => 249
  | 182 => 248
  | 131 => 253
  | 5 => 5
  | 9 => 9
  | 218 => 280
  | 222 => 284
  | 228 => 295
  | 229 => 296
  | n => n
 g n := n
theorem soLays : Lays.n189 Tryz.prog soR where
 mixed := rfl
 f125 := Tryz.func120.trans (congrArg some (Eq.refl (Body.n125 soR)))
 f128 := Tryz.func163.trans (congrArg some (Eq.refl (Body.n128 soR)))
 f129 := Tryz.func164.trans (congrArg some (Eq.refl (Body.n129 soR)))
 f189 := Tryz.func73.trans (congrArg some (Eq.refl (Body.n189 soR)))
 f215 := Tryz.func194.trans (congrArg some (Eq.refl (Body.n215 soR)))
 f216 := Tryz.func160.trans (congrArg some (Eq.refl (Body.n216 soR)))
 f257 := Tryz.func119.trans (congrArg some (Eq.refl (Body.n257 soR)))
 f294 := Tryz.func154.trans (congrArg some (Eq.refl (Body.n294 soR)))
 f295 := Tryz.func155.trans (congrArg some (Eq.refl (Body.n295 soR)))
 f296 := Tryz.func156.trans (congrArg some (Eq.refl (Body.n296 soR)))
 f297 := Tryz.func157.trans (congrArg some (Eq.refl (Body.n297 soR)))
 f298 := Tryz.func158.trans (congrArg some (Eq.refl (Body.n298 soR)))
 f299 := Tryz.func159.trans (congrArg some (Eq.refl (Body.n299 soR)))
 f300 := Tryz.func161.trans (congrArg some (Eq.refl (Body.n300 soR)))
 f301 := Tryz.func162.trans (congrArg some (Eq.refl (Body.n301 soR)))
 f328 := Tryz.func189.trans (congrArg some (Eq.refl (Body.n328 soR)))
 f329 := Tryz.func190.trans (congrArg some (Eq.refl (Body.n329 soR)))
 f330 := Tryz.func191.trans (congrArg some (Eq.refl (Body.n330 soR)))
 f331 := Tryz.func192.trans (congrArg some (Eq.refl (Body.n331 soR)))
 f332 := Tryz.func193.trans (congrArg some (Eq.refl (Body.n332 soR)))
 f343 := Tryz.func207.trans (congrArg some (Eq.refl (Body.n343 soR)))
 t0 := Tryz.underlying0
 a0 := Tryz.isAgg0
 z0 := Tryz.sizeOf0
 v0 := Tryz.zeroValue0
 t3 := Tryz.underlying3
 a3 := Tryz.isAgg3
 z3 := Tryz.sizeOf3
 v3 := Tryz.zeroValue3
 t4 := Tryz.underlying4
 a4 := Tryz.isAgg4
 z4 := Tryz.sizeOf4
 v4 := Tryz.zeroValue4
 t5 := Tryz.underlying5
 a5 := Tryz.isAgg5
 z5 := Tryz.sizeOf5
 v5 := Tryz.zeroValue5
 t9 := Tryz.underlying9
 a9 := Tryz.isAgg9
 z9 := Tryz.sizeOf9
 v9 := Tryz.zeroValue9
 t28 := Tryz.underlying57
 a28 := Tryz.isAgg57
 z28 := Tryz.sizeOf57
 v28 := Tryz.zeroValue57
 t46 := Tryz.underlying150
 a46 := Tryz.isAgg150
 z46 := Tryz.sizeOf150
 v46 := Tryz.zeroValue150
 t51 := Tryz.underlying32
 a51 := Tryz.isAgg32
 z51 := Tryz.sizeOf32
 v51 := Tryz.zeroValue32
 t53 := Tryz.underlying22
 a53 := Tryz.isAgg22
 z53 := Tryz.sizeOf22
 v53 := Tryz.zeroValue22
 t131 := Tryz.underlying253
 a131 := Tryz.isAgg253
 z131 := Tryz.sizeOf253
 v131 := Tryz.zeroValue253
 t182 := Tryz.underlying248
 a182 := Tryz.isAgg248
 z182 := Tryz.sizeOf248
 v182 := Tryz.zeroValue248
 t183 := Tryz.underlying249
 a183 := Tryz.isAgg249
 z183 := Tryz.sizeOf249
 v183 := Tryz.zeroValue249
 t218 := Tryz.underlying280
 a218 := Tryz.isAgg280
 z218 := Tryz.sizeOf280
 v218 := Tryz.zeroValue280
 t222 := Tryz.underlying284
 a222 := Tryz.isAgg284
 z222 := Tryz.sizeOf284
 v222 := Tryz.zeroValue284
 t228 := Tryz.underlying295
 a228 := Tryz.isAgg295
 z228 := Tryz.sizeOf295
 v228 := Tryz.zeroValue295
 t229 := Tryz.underlying296
 a229 := Tryz.isAgg296
 z229 := Tryz.sizeOf296
 v229 := Tryz.zeroValue296
end Go.Proofs.YtcglabmlhljkmaaGreat
namespace Go.Proofs.YtcglabmlhljkmaaGreat
open Go Go.RowKit Go.Gv
def sortI (xs : List Int) : List Int := xs.mergeSort fun x y => decide (x ≤ y)
theorem sortI_nil : sortI [] = [] := by rw [sortI, List.mergeSort_nil]
theorem sortI_perm (xs : List Int) : (sortI xs).Perm xs := List.mergeSort_perm xs _
theorem sortI_len (xs : List Int) : (sortI xs).length = xs.length := (sortI_perm xs).length_eq
theorem slices_Sort (A : Option Addr) (c : Nat) (xs : List Int) (m : Nat) (hx : xs.length = m) (hm : 0 < m ∧ m ≤ 1000000) :
  Gv.Spec Tryz.prog 73 #[.slice A m c] [own 3 1 (.slice A m c) m (NL xs)]
  (fun r H' => r = .tuple #[] ∧ H' = [own 3 1 (.slice A m c) m (NL (sortI xs))]) := fun w0 w H hw => by
 have hw1 : St w0 w (own 3 1 (.slice A m c) m (NL xs) :: H) := hw
 obtain ⟨s, hA⟩ := hw1.2.head
 rcases hA.2 with ⟨_, h0⟩ | ⟨g, cap, cur, hv, h2, h3, h4, h5, h6⟩
 ·omega
 ·cases hv
  have hb := (res_some h2).2
  have hlt : g < w.heap.size := (Array.getElem?_eq_some_iff.1 hb).1
  have ht : cur.toList.take xs.length = xs.map (Value.int .i64) := by rw [hx]; rw [Nat.mul_one] at h6; exact h6
  have hc := Any.slices_Sort_int soLays g 0 c xs w (holds_of_blockI hb ht) hlt (by omega)
  rw [hx] at hc
  refine Calls.mono hc ?_
  rintro e w' ⟨rfl, n, os, rfl⟩
  refine ⟨_, ⟨rfl, rfl⟩, ?_⟩
  have ho := ownsRow_sortedI (base := 0) (n := n) (os := os) (ss := xs) (ts := sortI xs) (sortI_len xs) (Nat.zero_le _) hb (by omega) h4 h5
  rw [hx] at ho
  exact St.grown hw1 ho (.inl rfl) (grownBy_sortedI _)
def adP (P : List (Int × GOT)) : List Int := P.map (·.1)
theorem adP_snoc {P : List (Int × GOT)} {k : Nat} {q : Int × GOT} (h : P[k]? = some q) : adP (P.take (k + 1)) = adP (P.take k) ++ [q.1] := by
 rw [adP, adP, List.take_add_one, h]; simp
theorem tree_pages1 (a : Int) (nv : Value) (cs : List Value) (hn : nv = .agg cs.toArray) (o : List Int) (b7 : Nat) (A' : Option Addr) (c' : Nat) (hb : o.length ≤ 1000000) :
  Gv.Spec Tryz.prog 72 #[.int .i64 a, nv, .pointer (some ⟨b7, 0, none⟩)]
   ([blk b7 57 [.slice A' o.length c'], own 3 1 (.slice A' o.length c') o.length (NL o)] ++ [])
   (fun _ H' => ∃ z : Option Addr × Nat, H' = [blk b7 57 [.slice z.1 (o ++ [a]).length z.2], own 3 1 (.slice z.1 (o ++ [a]).length z.2) (o ++ [a]).length (NL (o ++ [a]))] ++ []) := by
 subst hn
 refine Gv.Spec.of (fun w h0 hw => ?_)
 refine Calls.enter Tryz.func72 rfl rfl rfl hw ?_
 simp only [argSlots]
 refine Wap ?_
 refine Ws ?_
 (refine Wbx ?_; intro b4)
 refine Ws ?_
 (refine Zli (ys := [.int .i64 a]) ?_; intro va)
 refine Ws ?_
 refine Zap (m2 := 1) (news := [.int .i64 a]) ?_ (hr := by exact rdw_own (v := va) Wp) (hl := by rfl) (h1 := by exact (by intro y hy; rw [List.mem_singleton.1 hy]; rfl))
 intro vr
 (refine Tri.shape (e := 3) (size := 1) (v := vr) Wp ?_; rintro ⟨A2, c2, rfl⟩)
 refine Ws ?_
 refine ZS ?_ (hi := by exact (by decide : 0 < 1))
 have hl' : (o ++ [a]).length = o.length + 1 := lAp
 refine Zat (own 3 1 (.slice A2 (o.length + 1) c2) _ _) (own 3 1 (.slice A2 (o ++ [a]).length c2) (o ++ [a]).length (NL (o ++ [a]))) ?_ (e := by rw [NL_snoc, hl'])
 refine Zat (blk b7 _ _) (blk b7 57 [.slice A2 (o ++ [a]).length c2]) ?_ (e := by rw [hl']; rfl)
 refine Ws ?_
 refine Zfn [blk b7 57 [.slice A2 (o ++ [a]).length c2], own 3 1 (.slice A2 (o ++ [a]).length c2) (o ++ [a]).length (NL (o ++ [a]))] (hq := ?_)
 exact ⟨(A2, c2), rfl⟩
def pagI (b7 : Nat) (P : List (Int × GOT)) (k : Nat) : Atom := Gv.exA (fun z : Option Addr × Nat => Gv.star [blk b7 57 [.slice z.1 (adP (P.take k)).length z.2], own 3 1 (.slice z.1 (adP (P.take k)).length z.2) (adP (P.take k)).length (NL (adP (P.take k)))])
section
variable {P : Program} {w0 : World} {n : NT} {L : Slots} {H H' : List Atom} {G : Act → World → Prop}
theorem to_pagI {b7 : Nat} {Q : List (Int × GOT)} (p : Pulls H [blk b7 57 [.slice none 0 0], own 3 1 (.slice none 0 0) 0 []] H') (h : Tri w0 G n L (pagI b7 Q 0 :: H')) : Tri w0 G n L H :=
 Tri.toExA (P := Tryz.prog) (A := fun z : Option Addr × Nat => [blk b7 57 [.slice z.1 (adP (Q.take 0)).length z.2], own 3 1 (.slice z.1 (adP (Q.take 0)).length z.2) (adP (Q.take 0)).length (NL (adP (Q.take 0)))]) (none, 0) p h
theorem of_pagI {b7 k : Nat} {Q : List (Int × GOT)} {es : List Int} (he : adP (Q.take k) = es) (p : Pull H (pagI b7 Q k) H') (h : ∀ A c, Tri w0 G n L ([blk b7 57 [.slice A es.length c], own 3 1 (.slice A es.length c) es.length (NL es)] ++ H')) : Tri w0 G n L H := by
 subst he
 exact Tri.exA p (fun z => Tri.unstar .head (h z.1 z.2))
end
theorem spec_frame {P : Program} {f : FuncId} {args : Array Value} {Pre Post F : List Atom} (h : Gv.Spec P f args Pre (fun _ H' => H' = Post)) : Gv.Spec P f args (Pre ++ F) (fun _ H' => H' = Post ++ F) := fun w0 w H hw => by
 rw [aAs] at hw
 refine (h w0 w (F ++ H) hw).mono ?_
 intro e w' he
 cases e with
 | returned v =>
  obtain ⟨H', rfl, h3⟩ := he
  exact ⟨_, rfl, by rw [aAs]; exact h3⟩
 | panicked c => exact he
 | outgrown => exact he
theorem pag_spec (b7 : Nat) (Q : List (Int × GOT)) (hb : Q.length ≤ 1000000) (k : Nat) (q : Int × GOT) (hq : Q[k]? = some q) (A : Option Addr) (c : Nat) (B : Option Addr) (b : Nat) (C : Option Addr) (e : Nat) :
  Gv.Spec Tryz.prog 72 ([Value.int .i64 q.1, ndW q.2.leaf (.slice A q.2.E.length c) (.slice B q.2.K.length b) (.slice C q.2.D.length e)] ++ [Value.pointer (some ⟨b7, 0, none⟩)]).toArray [pagI b7 Q k, own 40 8 (.slice A q.2.E.length c) q.2.E.length (EL q.2.E)] (fun _ H' => H' = [pagI b7 Q (k + 1), own 40 8 (.slice A q.2.E.length c) q.2.E.length (EL q.2.E)]) := by
 have hs := adP_snoc hq
 have hbb : (adP (Q.take k)).length ≤ 1000000 := by rw [adP, List.length_map, lTk]; omega
 have := spec_exA (P := Tryz.prog) (f := 72) (A := fun z : Option Addr × Nat => [blk b7 57 [.slice z.1 (adP (Q.take k)).length z.2], own 3 1 (.slice z.1 (adP (Q.take k)).length z.2) (adP (Q.take k)).length (NL (adP (Q.take k)))])
  (B := fun z : Option Addr × Nat => [blk b7 57 [.slice z.1 (adP (Q.take k) ++ [q.1]).length z.2], own 3 1 (.slice z.1 (adP (Q.take k) ++ [q.1]).length z.2) (adP (Q.take k) ++ [q.1]).length (NL (adP (Q.take k) ++ [q.1]))])
  (fun z => tree_pages1 q.1 (ndW q.2.leaf (.slice A q.2.E.length c) (.slice B q.2.K.length b) (.slice C q.2.D.length e)) (ndLL q.2.leaf (.slice A q.2.E.length c) (.slice B q.2.K.length b) (.slice C q.2.D.length e)) rfl (adP (Q.take k)) b7 z.1 z.2 hbb)
 rw [← hs] at this
 exact spec_frame (F := [own 40 8 (.slice A q.2.E.length c) q.2.E.length (EL q.2.E)]) this
theorem adP_pg (S : DS) (k : Nat) (mu : Nat → Nat) : ∀ (h m : Nat) (a : Int), tkG S k mu h m a → adP (wkP S h a) = (pgN S h a).map (fun p : Nat => (p : Int))
 | 0, _, _, g => g.elim
 | h + 1, m, a, g => by
  obtain ⟨⟨p, hp, _⟩, _, _, _, _, g5, _⟩ := g
  rw [adP, wkP, pgN, List.map_cons, List.map_cons]
  congr 1
  ·show a = ((a.toNat : Nat) : Int); omega
  ·rw [List.map_flatMap, List.map_flatMap]
   exact flat_congr (fun d hd => adP_pg S k mu h (mu h) d (g5 d hd))
theorem tree_Pages (pv d : Nat) (v : VS) (hv : v.ok) (hl : v.S.W.length ≤ 1000000) (h : Nat) (a : Int) (hh : h ≤ 5) (hg : h = 0 ∨ wkG v.S h a) (Z : List Int) (hZ : adP (wkP v.S h a) = Z) (hlen : h ≠ 0 → 0 < Z.length ∧ Z.length ≤ 1000000) :
  Gv.Spec Tryz.prog 25 #[.pointer (some ⟨pv, 0, none⟩), rootV a (h : Int)] [blk pv 146 (viewL d v), DSK d v.S]
  (fun r H' => ∃ A c, r = .tuple #[.slice A Z.length c, .int .i64 0] ∧ H' = [blk pv 146 (viewL d v), DSK d v.S, own 3 1 (.slice A Z.length c) Z.length (NL (sortI Z))]) := by
 refine Gv.Spec.of (fun w h0 hw => ?_)
 refine Calls.enter Tryz.func25 rfl rfl rfl hw ?_
 simp only [argSlots]
 refine Wap ?_
 refine Ws ?_
 (refine Wbx ?_; intro b3)
 refine Ws ?_
 refine Zla (cs := rootL a (h : Int)) ?_ (hl := by rfl)
 refine Ws ?_
 refine Zcv (view_may pv a h hh) ?_
 refine Ws ?_
 refine Zz 14 false ?_
 refine Ws ?_
 rcases Nat.eq_zero_or_pos h with h00 | hpos
 ·subst h00
  have hZ0 : Z = [] := hZ.symm
  subst hZ0
  refine Zz 18 true ?_
  refine Ws ?_
  (with_reducible apply Tri.ownNil 3 1)
  exact Zfn [blk pv 146 (viewL d v), DSK d v.S, own 3 1 (.slice none 0 0) 0 []] (hq := by exact ⟨none, 0, rfl, by rw [sortI_nil]; rfl⟩)
 ·have hg' : wkG v.S h a := by rcases hg with q | q; omega; exact q
  obtain ⟨hZ1, hZ2⟩ := hlen (by omega)
  have hPl : (wkP v.S h a).length = Z.length := by rw [← hZ, adP, List.length_map]
  have heach := tree_each pv d v hv hl h a hg' (by omega) 72
  generalize wkP v.S h a = P at hZ hPl heach
  refine Zz 18 false ?_ (hi := by exact dFf (by omega))
  refine Ws ?_
  refine Zal fun b7 => ?_
  refine Ws ?_
  refine ZomakeFunc (vs := [.pointer (some ⟨b7, 0, none⟩)]) ?_ (hc := by exact ⟨rfl, trivial⟩)
  refine Ws ?_
  have hcall := heach [.pointer (some ⟨b7, 0, none⟩)] (pagI b7 P) (pag_spec b7 P (by omega))
  (with_reducible apply Tri.ownNil 3 1)
  refine Zat (blk b7 _ _) (blk b7 57 [.slice none 0 0]) ?_
  refine to_pagI (b7 := b7) (Q := P) Wps ?_
  refine Zd hcall ?_
  refine of_pagI (he := show adP (P.take P.length) = Z by rw [List.take_length]; exact hZ) Wp (fun A c => ?_)
  refine Wap ?_
  refine Ws ?_
  refine Zz 28 false ?_
  refine Ws ?_
  refine Zd (slices_Sort A c Z Z.length rfl ⟨hZ1, hZ2⟩) ?_
  refine Ws ?_
  exact Zfn [blk pv 146 (viewL d v), DSK d v.S, own 3 1 (.slice A Z.length c) Z.length (NL (sortI Z))] (hq := by exact ⟨A, c, rfl, rfl⟩)
def mkV (W : List Nat) (j : Nat) : List Value := (mkT W j).map .bool
theorem mkV_len (W : List Nat) (j : Nat) : (mkV W j).length = 512 := by rw [mkV, List.length_map, mkT_len]
theorem mkV_get {W : List Nat} {j p : Nat} (hn : W.Nodup) (h5 : ∀ p ∈ W, p < 512) (h : W[j]? = some p) : (mkV W j)[0 + p * 1]? = some (.bool false) := by
 have hp := h5 p (List.mem_of_getElem? h)
 rw [Nat.zero_add, Nat.mul_one, mkV, List.getElem?_map, mkT_get hp, mkT_no hn h5 h]; rfl
theorem mkV_set {W : List Nat} {j p : Nat} (h : W[j]? = some p) : (mkV W j).set (0 + p * 1) (.bool true) = mkV W (j + 1) := by
 rw [Nat.zero_add, Nat.mul_one, mkV, mkV, ← mkT_succ h, List.map_set]
theorem mkV_zero (W : List Nat) : List.replicate 512 (Value.bool false) = mkV W 0 := by
 show _ = (mkU (W.take 0).reverse).map Value.bool
 show _ = (List.replicate 512 false).map Value.bool
 rw [List.map_replicate]
theorem bool_alk {u : List Bool} (h : u.length = 512) : Alk (List.replicate 512 (.bool false)) (u.map Value.bool) := Alk.rep (fun _ => rfl) 512 _ h
set_option maxRecDepth 4000 in
theorem law16_sound {k : Nat} {mu : Nat → Nat} {S : DS} {s : SP} {m : BM} {b h : Nat} {E : List ENT} (c : CMT k mu S s m b h E) (pb d pv : Nat) (op : Bool) :
  Gv.Spec Tryz.prog 40 #[.pointer (some ⟨d, 0, none⟩), .pointer (some ⟨pb, 0, none⟩)] [blk pb 161 (baseL d pv s m op false), DSK d S]
  (fun r H' => r = .bool true ∧ H' = [blk pb 161 (baseL d pv s m op false), DSK d S]) := by
 refine Gv.Spec.of (fun w h0 hw => ?_)
 refine Calls.enter Tryz.func40 rfl rfl rfl hw ?_
 simp only [argSlots]
 refine Wap ?_
 have hgen := c.cm.gen
 have hok : S.ok := c.cm.on.1
 have hWl : S.W.length = 0 := by rw [c.cm.W]; rfl
 have hbs := okS_spec c.cm.sok
 have hrd := page_Read d S s.bitmap 66 hok (by omega) (by omega)
 rw [c.cm.map] at hrd
 have hbl : (mpP s.bitmap s.gen m).b = putM m := rfl
 dsimp only at hrd
 rw [hbl] at hrd
 have hrm := c.cm.mok.right c.cm.k8
 have hml := c.cm.mok.len
 have hvk : (⟨S, s.gen, m, m⟩ : VS).ok := (c.cm.view s.gen (by omega)).ok
 have hpp : m.p = ((S.A.length / 256 : Nat) : Int) := by rw [c.cm.div]; exact c.cm.mok.p
 have hop := tree_Open d ⟨S, s.gen, m, m⟩ hvk hrm hrm hpp hpp
 obtain ⟨hw1, hw2, hw3⟩ := c.walk
 have hsh := c.hh
 have hEl : E.length ≤ 1000000 := by rw [← c.ents]; exact hw3
 have hPl : (pgN S h s.addr).length ≤ 1000000 := by
  have h1 := c.cm.mok.free
  have h2 := c.cm.k8
  rw [bsU, lAp] at h1
  omega
 have hpa := fun pv => tree_Pages pv d ⟨S, s.gen, m, m⟩ hvk (by show S.W.length ≤ 1000000; omega) h s.addr c.h5 hw1 _ rfl (fun hne => by
  have tg := c.g.resolve_left hne
  show 0 < (adP (wkP S h s.addr)).length ∧ (adP (wkP S h s.addr)).length ≤ 1000000
  rw [adP_pg S k mu h (rmin h) s.addr tg, List.length_map]
  obtain ⟨g, rfl⟩ : ∃ g, h = g + 1 := ⟨h - 1, by omega⟩
  exact ⟨by rw [pgN]; exact Nat.succ_pos _, hPl⟩)
 have hal := fun pv => tree_All pv d ⟨S, s.gen, m, m⟩ hvk (by show S.W.length ≤ 1000000; omega) h s.addr c.h5 hw1 (by show (wkE S h s.addr).length ≤ 1000000; exact hw3)
 dsimp only at hop hpa hal
 rw [c.ents] at hal
 have hadp : adP (wkP S h s.addr) = (pgN S h s.addr).map (fun p : Nat => (p : Int)) := by
  rcases Nat.eq_zero_or_pos h with hz | hz
  ·rw [hz]; rfl
  ·exact adP_pg S k mu h (rmin h) s.addr (c.g.resolve_left (by omega))
 rw [hadp] at hpa
 have hbb := c.bb
 have hb5 : 2 ≤ b ∧ b < k := by
  refine c.cm.mok.rng b ?_
  rw [bsU]; exact mAr _ (List.mem_cons_self ..)
 have hk8 := c.cm.k8
 have hfree := c.cm.mok.free
 refine Ws ?_
 refine Zcv crc_New ?_
 refine Ws ?_
 refine Zal fun b5 => ?_
 refine Ws ?_
 refine ZSa (ys := tabL) ?_ (hl := by exact tabL_length) (hc := by exact List.length_replicate) (h1 := by exact tabL_one)
 refine Ws ?_
 refine Zd (base_Super pb d pv s m op false) ?_
 refine Ws ?_
 refine Zal fun b6 => ?_
 refine Ws ?_
 refine ZSa (ys := spL s) ?_ (h1 := by exact spL_one s)
 refine Ws ?_
 refine Zla (cs := tabL) ?_ (hl := by exact tabL_length)
 refine Ws ?_
 refine Zcs hrd ?_
 rintro r2 H2 ⟨A, cc, rfl, rfl⟩
 refine Wap ?_
 refine Ws ?_
 refine Zal fun b7 => ?_
 refine Ws ?_
 refine ZSa (ys := pgL (mpP s.bitmap s.gen m) (.slice A (putM m).length cc)) ?_ (h1 := by exact pgL_one _ A _ cc)
 refine Ws ?_
 have hgt := bm_Get (.slice A (putM m).length cc) (putM m)
 rw [got_back hml hrm] at hgt
 dsimp only at hgt
 refine Zcv hgt ?_ (hpre := by exact rdw_own (v := .slice A (putM m).length cc) Wp)
 refine Ws ?_
 refine Zal fun b8 => ?_
 refine Ws ?_
 refine ZSa (ys := bmL m) ?_ (hl := by exact bmL_len hml) (hc := by exact z513f) (h1 := by exact bmL_one _)
 refine Ws ?_
 refine Zla (cs := tabL) ?_ (hl := by exact tabL_length)
 refine Ws ?_
 refine Zla (cs := bmL m) ?_ (hl := by exact bmL_len hml)
 refine Ws ?_
 refine Zla (cs := bmL m) ?_ (hl := by exact bmL_len hml)
 refine Ws ?_
 refine Zcs hop ?_
 rintro r3 H3 ⟨tv, rfl, rfl⟩
 refine Wap ?_
 refine Ws ?_
 refine Zz 51 false ?_
 refine Ws ?_
 refine Zz 55 false ?_
 refine Ws ?_
 refine Zz 58 false ?_
 refine Ws ?_
 refine Zlg (ys := rootL s.addr (h : Int)) ?_ (hv := by rw [← hsh]; rfl) (hl := by rfl)
 refine Ws ?_
 refine Zcs (hpa tv) ?_
 rintro r4 H4 ⟨A4, c4, rfl, rfl⟩
 refine Wap ?_
 obtain ⟨ys, hys0⟩ : ∃ ys, ys = sortI ((pgN S h s.addr).map (fun p : Nat => (p : Int))) := ⟨_, rfl⟩
 have hys : ys.Perm ((pgN S h s.addr).map (fun p : Nat => (p : Int))) := by rw [hys0]; exact sortI_perm _
 rw [← hys0]
 clear hys0
 obtain ⟨zs, rfl, hzp⟩ := perm_nat hys
 have hzl : ((pgN S h s.addr).map (fun p : Nat => (p : Int))).length = zs.length := by rw [List.length_map, hzp.length_eq]
 rw [hzl]
 obtain ⟨hnd, hlt5, hmk, hfr⟩ := c.snd hzp
 have hWlen := sndW_len b zs E
 have hW0 : (sndW b zs E)[0]? = some 0 := rfl
 have hW1 : (sndW b zs E)[1]? = some 1 := rfl
 have hW2 : (sndW b zs E)[2]? = some b := rfl
 have hWz : ∀ i p, zs[i]? = some p → (sndW b zs E)[3 + i]? = some p := fun i p hp => sndW_z hp
 have hWt : ∀ j x, j < E.length → x < nE (E.getD j ent0) → (sndW b zs E)[3 + zs.length + (txs (E.take j)).length + x]? = some ((E.getD j ent0).addr.toNat + x) := fun j x => sndW_t
 have hEb : ∀ j, j < E.length → (2 ≤ (E.getD j ent0).addr ∧ (E.getD j ent0).addr ≤ 511) ∧ (1 ≤ (E.getD j ent0).len ∧ (E.getD j ent0).len ≤ 65535) := fun j hj => by
  refine (c.tx _ ?_).bounds
  rw [gDe, gEe hj]
  exact List.getElem_mem hj
 obtain ⟨W, hW⟩ : ∃ W, W = sndW b zs E := ⟨_, rfl⟩
 rw [← hW] at hnd hlt5 hmk hfr hWlen hW0 hW1 hW2 hWz hWt
 clear hW hpa hys hadp
 refine Ws ?_
 refine Zlg (ys := rootL s.addr (h : Int)) ?_ (hv := by rw [← hsh]; rfl) (hl := by rfl)
 refine Ws ?_
 refine Zcs (hal tv) ?_
 rintro r5 H5 ⟨A5, c5, rfl, rfl⟩
 refine Wap ?_
 refine Ws ?_
 refine Zal fun b17 => ?_
 refine Zat (blk b17 _ _) (blk b17 58 (mkV W 0)) ?_ (e := by rw [← mkV_zero W])
 refine Ws ?_
 refine Wm [blk b6 83 (spL s)] ?_
 refine Wq [0] ?_
 refine Zm 1 (h := fun _ _ qK => by exact Zl (v := .int .i64 (b : Int)) qK (hv := by rw [← hbb]; rfl)) (k := ?_)
 refine Zm 2 (h := fun _ _ qK => by exact Zia (j := 0) qK (hj := by rfl) (hlt := by decide)) (k := ?_)
 refine ZA 3 ?_
 refine ZS ?_ (hi := by rw [mkV_len]; decide)
 refine Zat (blk b17 _ _) (blk b17 58 (mkV W 1)) ?_ (e := by rw [mkV_set hW0])
 refine Zw ?_
 refine Zm 4 (h := fun _ _ qK => by exact Zia (j := 1) qK (hj := by rfl) (hlt := by decide)) (k := ?_)
 refine ZA 5 ?_
 refine ZS ?_ (hi := by rw [mkV_len]; decide)
 refine Zat (blk b17 _ _) (blk b17 58 (mkV W 2)) ?_ (e := by rw [mkV_set hW1])
 refine Zw ?_
 refine Zm 6 (h := fun _ _ qK => by exact Zia (j := b) qK (hj := by rfl) (hlt := by omega)) (k := ?_)
 refine ZA 7 ?_
 refine ZS ?_ (hi := by rw [mkV_len]; omega)
 refine Zat (blk b17 _ _) (blk b17 58 (mkV W 3)) ?_ (e := by rw [mkV_set hW2])
 refine Zw ?_
 refine ZE ?_
 refine Ws ?_
 (refine Wl (α := { i : Nat // i ≤ zs.length }) (fun z => zs.length - z.1) (fun z => [(0, .pointer (some ⟨d, 0, none⟩)), (1, .pointer (some ⟨pb, 0, none⟩)), (9, .pointer (some ⟨b8, 0, none⟩)), (13, .slice A4 zs.length c4), (14, .int .i64 0), (15, .slice A5 E.length c5), (16, .int .i64 0), (17, .pointer (some ⟨b17, 0, none⟩)), (18, .int .i64 ((3 + z.1 : Nat) : Int)), (19, .int .i64 (z.1 : Int))]) (fun z => [blk b17 58 (mkV W (3 + z.1)), blk b8 60 (bmL m), own 3 1 (.slice A4 zs.length c4) zs.length (NL (zs.map (fun p : Nat => (p : Int)))), own 40 8 (.slice A5 E.length c5) E.length (EL E), blk pb 161 (baseL d pv s m op false), DSK d S, Ex h0]) ⟨0, Nat.zero_le _⟩ ?_; rintro ⟨i, hi⟩ mx hmx; (try dsimp only at hmx ⊢))
 refine Ws ?_
 (refine Wcd ?_ ?_ <;> intro hc1)
 ·have hil : i < zs.length := by omega
  have hil' : i + 1 ≤ zs.length := hil
  obtain ⟨p, hp⟩ : ∃ p, zs[i]? = some p := ⟨zs[i], gEe hil⟩
  have hWi := hWz i p hp
  have hp5 := hlt5 p (List.mem_of_getElem? hWi)
  have hNi : (NL (zs.map (fun p : Nat => (p : Int))))[i]? = some (.int .i64 (p : Int)) := by rw [nl_get, List.getElem?_map, hp]; rfl
  refine Ws ?_
  refine Zix (j := i) ?_ (hj := by rfl) (hlt := by exact hil)
  refine Ws ?_
  refine Zlo (j := i * 1) ?_ (hv := by exact (by rw [Nat.mul_one]; exact hNi))
  refine Ws ?_
  refine Zl ?_ (hv := by exact mkV_get hnd hlt5 hWi)
  refine Ws ?_
  refine Zix (j := i) ?_ (hj := by rfl) (hlt := by exact hil)
  refine Ws ?_
  refine Zlo (j := i * 1) ?_ (hv := by exact (by rw [Nat.mul_one]; exact hNi))
  refine Ws ?_
  refine ZS ?_ (hi := by rw [mkV_len]; omega)
  refine Zat (blk b17 _ _) (blk b17 58 (mkV W (3 + (i + 1)))) ?_ (e := by rw [mkV_set hWi]; rfl)
  refine Ws ?_
  refine Zi 18 ((3 + (i + 1) : Nat) : Int) ?_ (hi := by omega)
  refine Zi 19 ((i + 1 : Nat) : Int) ?_ (hi := by omega)
  exact Zag ⟨i + 1, hil'⟩
 ·have hil : i = zs.length := by omega
  subst hil
  refine Ws ?_
  have ht0 : 3 + zs.length = 3 + zs.length + (txs (E.take 0)).length := rfl
  refine Zi 18 ((3 + zs.length + (txs (E.take 0)).length : Nat) : Int) ?_ (hi := by rfl)
  refine Zat (blk b17 _ _) (blk b17 58 (mkV W (3 + zs.length + (txs (E.take 0)).length))) ?_
  (refine Wl (α := { j : Nat // j ≤ E.length }) (fun z => E.length - z.1) (fun z => [(0, .pointer (some ⟨d, 0, none⟩)), (1, .pointer (some ⟨pb, 0, none⟩)), (9, .pointer (some ⟨b8, 0, none⟩)), (14, .int .i64 0), (15, .slice A5 E.length c5), (16, .int .i64 0), (17, .pointer (some ⟨b17, 0, none⟩)), (18, .int .i64 ((3 + zs.length + (txs (E.take z.1)).length : Nat) : Int)), (20, .int .i64 (z.1 : Int))]) (fun z => [blk b17 58 (mkV W (3 + zs.length + (txs (E.take z.1)).length)), blk b8 60 (bmL m), own 40 8 (.slice A5 E.length c5) E.length (EL E), blk pb 161 (baseL d pv s m op false), DSK d S, Ex h0]) ⟨0, Nat.zero_le _⟩ ?_; rintro ⟨j, hj⟩ mx hmx; (try dsimp only at hmx ⊢))
  refine Ws ?_
  (refine Wcd ?_ ?_ <;> intro hc2)
  ·have hjl : j < E.length := by omega
   have hjl' : j + 1 ≤ E.length := hjl
   have hWj := hWt j
   obtain ⟨x, hx⟩ : ∃ x, x = E.getD j ent0 := ⟨_, rfl⟩
   have hxb := hEb j hjl
   have htl := txs_take_len hjl
   have hadr : (EL E)[j * 8 + 3]? = some (.int .i64 (E.getD j ent0).addr) := EL_at E j hjl 3 (by decide)
   have h8 := EL_eight E j hjl
   rw [← hx] at hWj hxb htl hadr h8
   obtain ⟨ad, had⟩ : ∃ ad : Nat, x.addr = (ad : Int) := ⟨x.addr.toNat, by omega⟩
   have hpg : pagesE x.len = ((nE x : Nat) : Int) := by
    have : 0 ≤ pagesE x.len := by rw [pagesE]; omega
    rw [nE]; omega
   have hadn : x.addr.toNat = ad := by omega
   rw [hadn] at hWj
   rw [had] at hadr
   have hnE : nE x ≤ 256 := by rw [pagesE] at hpg; omega
   obtain ⟨base, hbase⟩ : ∃ base, base = 3 + zs.length + (txs (E.take j)).length := ⟨_, rfl⟩
   have hb1 : 3 + zs.length + (txs (E.take (j + 1))).length = base + nE x := by rw [htl, hbase]; omega
   rw [← hbase] at hWj
   have hn0 : 0 ≤ nE x := Nat.zero_le _
   have hbb2 : base + nE x ≤ 100000 := by
    rw [← hb1]
    have h1 : (txs (E.take (j + 1))).length ≤ (txs E).length := by
     conv => rhs; rw [← List.take_append_drop (j + 1) E]
     rw [txs, txs, List.flatMap_append, lAp]; omega
    omega
   simp only [← hbase]
   refine Ws ?_
   refine Zi 18 ((base + 0 : Nat) : Int) ?_ (hi := by rfl)
   refine Zat (blk b17 _ _) (blk b17 58 (mkV W (base + 0))) ?_
   (refine Wl (α := { y : Nat // y ≤ nE x }) (fun z => nE x - z.1) (fun z => [(0, .pointer (some ⟨d, 0, none⟩)), (1, .pointer (some ⟨pb, 0, none⟩)), (9, .pointer (some ⟨b8, 0, none⟩)), (14, .int .i64 0), (15, .slice A5 E.length c5), (16, .int .i64 0), (17, .pointer (some ⟨b17, 0, none⟩)), (18, .int .i64 ((base + z.1 : Nat) : Int)), (20, .int .i64 (j : Int)), (21, .int .i64 (z.1 : Int))]) (fun z => [blk b17 58 (mkV W (base + z.1)), blk b8 60 (bmL m), own 40 8 (.slice A5 E.length c5) E.length (EL E), blk pb 161 (baseL d pv s m op false), DSK d S, Ex h0]) ⟨0, hn0⟩ ?_; rintro ⟨y, hy⟩ mx hmx; (try dsimp only at hmx ⊢))
   refine Ws ?_
   refine Zix (j := j) ?_ (hj := by rfl) (hlt := by exact hjl)
   refine Ws ?_
   refine Zlq (ys := entL x) ?_ (hv := by exact h8) (hl := by rfl)
   refine Ws ?_
   refine Zcv (node_PagesE x ⟨by omega, hxb.2.2⟩) ?_
   refine Zi 108 ((nE x : Nat) : Int) ?_ (hi := by exact hpg)
   refine Ws ?_
   (refine Wcd ?_ ?_ <;> intro hc3)
   ·have hyl : y < nE x := by omega
    have hyl' : y + 1 ≤ nE x := hyl
    have hWy := hWj y hjl hyl
    have hp5 := hlt5 _ (List.mem_of_getElem? hWy)
    refine Ws ?_
    refine Zix (j := j) ?_ (hj := by rfl) (hlt := by exact hjl)
    refine Ws ?_
    refine Zlo (j := j * 8 + 3) ?_ (hv := by exact hadr)
    refine Ws ?_
    refine Zl ?_ (hv := by exact mkV_get hnd hlt5 hWy)
    refine Ws ?_
    refine Zix (j := j) ?_ (hj := by rfl) (hlt := by exact hjl)
    refine Ws ?_
    refine Zlo (j := j * 8 + 3) ?_ (hv := by exact hadr)
    refine Ws ?_
    refine ZS ?_ (hi := by rw [mkV_len]; omega)
    refine Zat (blk b17 _ _) (blk b17 58 (mkV W (base + (y + 1)))) ?_ (e := by rw [mkV_set hWy]; rfl)
    refine Ws ?_
    refine Zi 18 ((base + (y + 1) : Nat) : Int) ?_ (hi := by omega)
    refine Zi 21 ((y + 1 : Nat) : Int) ?_ (hi := by omega)
    exact Zag ⟨y + 1, hyl'⟩
   ·have hyl : y = nE x := by omega
    refine Ws ?_
    refine Zi 18 ((3 + zs.length + (txs (E.take (j + 1))).length : Nat) : Int) ?_ (hi := by rw [hb1, hyl])
    refine Zat (blk b17 _ _) (blk b17 58 (mkV W (3 + zs.length + (txs (E.take (j + 1))).length))) ?_ (e := by rw [hb1, hyl])
    refine Zi 20 ((j + 1 : Nat) : Int) ?_ (hi := by omega)
    exact Zag ⟨j + 1, hjl'⟩
  ·have hjl : j = E.length := by omega
   subst hjl
   rw [List.take_length, ← hWlen]
   refine Ws ?_
   refine Zz 133 true ?_
   refine Ws ?_
   refine Zz 137 true ?_
   refine Ws ?_
   refine Zlg (ys := m.u.map .bool) ?_ (hv := by exact bmL_drop m hml) (hl := by rw [List.length_map]; exact hml)
   refine Ws ?_
   refine Zla (cs := mkV W W.length) ?_ (hl := by exact mkV_len _ _)
   refine Ws ?_
   refine ZoeqlA (r := true) ?_ (hax := by exact bool_alk hml) (hay := by exact bool_alk (mkT_len _ _)) (hr := by exact ⟨fun _ => by rw [mkV, hmk], fun _ => rfl⟩)
   refine Ws ?_
   refine Zd (base_Free pb d pv s m op false hml) ?_
   refine Ws ?_
   refine Zd (disk_PagesD d S hok) ?_
   have hdv := c.cm.div
   refine Ws ?_
   refine Zz 4 true ?_ (hi := by exact dTt (by rw [hdv]; omega))
   refine Ws ?_
   exact Zfn [blk pb 161 (baseL d pv s m op false), DSK d S] (hq := by exact ⟨rfl, rfl⟩)
end Go.Proofs.YtcglabmlhljkmaaGreat
