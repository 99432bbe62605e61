/- Texts of this claim, put together: TvWalk11, TvWalk12, SlWalk4, TvWalk13, TvPlain5, TvWalk8, TvWalk9, TvWalk10, TvWalk14, TvWalk5, TvWalk15, TxWalk3, TxPlain5, TvWalk17, TxWalk4, TxWalk12, TxPlain6, TxPlain7, TxPlain8, TxPlain9, TxPlain10. -/
import Derived.Test.YtcglabmlhljkmaaGreatZ02
import Derived.Test.YtcglabmlhljkmaaGreatZ07
import Derived.Test.YtcglabmlhljkmaaGreatZ06
import Derived.Test.YtcglabmlhljkmaaGreatZ05
import Derived.Test.YtcglabmlhljkmaaGreatZ01
import Derived.Test.YtcglabmlhljkmaaGreatZ03
import Derived.Test.YtcglabmlhljkmaaGreatZ04
section
/- tree: a root that was a child; a root that is written: the walk. -/
namespace Go.Proofs.YtcglabmlhljkmaaGreat
open Go Go.RowKit Go.Gv
set_option linter.unusedVariables false
set_option linter.unusedSimpArgs false

/-- a root that is looked for below -/
structure LW (R0 : VS × (Int × Nat) × Nat) where
  h : Nat
  v : VS
  a : Int
  hR : lwN h v a = R0
  hG : lwG h v a
  hv : v.ok
  hl : v.S.W.length ≤ 1000000
  hh : h ≤ 1000
set_option maxHeartbeats 8000000 in
theorem view_lower (pv d : Nat) (v : VS) (a : Int) (h : Nat) (hv : v.ok) (hl : v.S.W.length ≤ 1000000) (hh : h ≤ 1000) (hG : lwG h v a) :
    Gv.Spec Tryz.prog 151 #[.pointer (some ⟨pv, 0, none⟩), .int .i64 a, .int .i64 (h : Int)] [blk pv 146 (viewL d v), DSK d v.S]
    (fun r H' => r = .tuple #[.agg #[.int .i64 (lwN h v a).2.1.1, .int .i64 ((lwN h v a).2.1.2 : Int)], .int .i64 ((lwN h v a).2.2 : Int)] ∧ H' = [blk pv 146 (viewL d (lwN h v a).1), DSK d (lwN h v a).1.S]) := by
  refine Gv.Spec.of (fun w h0 hw => ?_)
  refine Calls.enter Tryz.func151 rfl rfl rfl hw ?_
  simp only [argSlots]
  refine Wap ?_
  obtain ⟨R0, hR0⟩ : ∃ R, R = lwN h v a := ⟨_, rfl⟩
  rw [← hR0]
  refine Ws ?_
  refine Zal fun b6 => ?_
  refine Ws ?_
  (refine Wl (α := LW R0) (fun x => x.h) (fun x => [(0, .pointer (some ⟨pv, 0, none⟩)), (1, .int .i64 x.a), (2, .int .i64 (x.h : Int)), (6, .pointer (some ⟨b6, 0, none⟩))]) (fun x => [blk b6 43 [.int .i64 0, .int .i64 0], blk pv 146 (viewL d x.v), DSK d x.v.S, Ex h0]) ⟨h, v, a, hR0.symm, hG, hv, hl, hh⟩ ?_; rintro ⟨h, v, a, hR, hG, hv, hl, hh⟩ mx hmx; (try dsimp only at hmx ⊢))
  refine Ws ?_
  (refine Wcd ?_ ?_ <;> intro hc)
  · obtain ⟨g, rfl⟩ : ∃ g, h = g + 2 := ⟨h - 2, by omega⟩
    rw [lwG] at hG
    rw [lwN] at hR
    obtain ⟨ha, hre, hd1, hd2, hgi, hG'⟩ := hG
    have hgok := giN_ok hv a
    have hgS := giN_S v a
    obtain ⟨N, hN⟩ : ∃ N, N = rdN v.S a false := ⟨_, rfl⟩
    rw [← hN] at hre hd1 hd2 hG' hR
    have hNd := view_Node pv d v a false hv hl ha
    rw [← hN] at hNd
    refine Ws ?_
    refine Zcs hNd ?_
    rintro r1 H1 ⟨A, c, B, e, C, f, rfl, rfl⟩
    refine Wap ?_
    refine Ws ?_
    refine Zal fun b8 => ?_
    refine Ws ?_
    refine ZSa (ys := ndLL N.leaf (.slice A N.E.length c) (.slice B N.K.length e) (.slice C N.D.length f)) ?_ (h1 := by exact ndLL_one N.leaf A B C _ c _ e _ f)
    refine Ws ?_
    refine Zz 20 false ?_ (hi := by rw [hre]; rfl)
    refine Ws ?_
    by_cases hd : 1 < N.D.length
    · rw [if_pos hd] at hR
      refine Zz 26 true ?_ (hi := by rw [decide_eq_true]; omega)
      refine Ws ?_
      refine Zbu (ys := [.int .i64 a, .int .i64 ((g + 2 : Nat) : Int)]) ?_
      refine Ws ?_
      refine ZSa (ys := [.int .i64 a, .int .i64 ((g + 2 : Nat) : Int)]) ?_ (h1 := by exact two_int _ _)
      refine Ws ?_
      rw [← hR]
      exact Zfn [blk pv 146 (viewL d v), DSK d v.S] (h := ResL.cons (Zra (rfl : [Value.int .i64 a, Value.int .i64 ((g + 2 : Nat) : Int)].length = 2)) (ResL.cons (Res1.tmp rfl) (ResL.nil))) (hq := by exact ⟨rfl, rfl⟩)
    · rw [if_neg hd] at hR
      have hgv := view_give pv d v a hv
      refine Zz 26 false ?_ (hi := by exact decide_eq_false (by omega))
      refine Ws ?_
      refine Zd hgv ?_
      refine Ws ?_
      refine Zz 31 false ?_ (hi := by rw [hgi]; rfl)
      have hN0 : (NL N.D)[0]? = some (.int .i64 (N.D.getD 0 0)) := by
        obtain ⟨x, l, hx⟩ : ∃ x l, N.D = x :: l := by
          cases hh : N.D with
          | nil => rw [hh] at hd1; exact absurd hd1 (by decide)
          | cons x l => exact ⟨x, l, rfl⟩
        rw [hx]; rfl
      have hlt0 : 0 < N.D.length := hd1
      have hg1 : g + 1 ≤ 1000 := by omega
      have hgl : (giN v a).1.S.W.length ≤ 1000000 := by rw [hgS]; exact hl
      have hdk : DSK d v.S = DSK d (giN v a).1.S := by rw [hgS]
      rw [hdk]
      refine Ws ?_
      refine Zix (j := 0) ?_ (hj := by rfl) (hlt := by exact hlt0)
      refine Ws ?_
      refine Zlo (j := 0) ?_ (hv := by exact hN0)
      refine Ws ?_
      refine Zi 2 ((g + 1 : Nat) : Int) ?_ (hi := by omega)
      exact Zag ⟨g + 1, (giN v a).1, N.D.getD 0 0, hR, hG', hgok, hgl, hg1⟩
  · have h1 : h ≤ 1 := by omega
    rw [lwN_one v a h1] at hR
    refine Ws ?_
    refine Zbu (ys := [.int .i64 a, .int .i64 (h : Int)]) ?_
    refine Ws ?_
    refine ZSa (ys := [.int .i64 a, .int .i64 (h : Int)]) ?_ (h1 := by exact two_int _ _)
    refine Ws ?_
    rw [← hR]
    exact Zfn [blk pv 146 (viewL d v), DSK d v.S] (h := ResL.cons (Zra (rfl : [Value.int .i64 a, Value.int .i64 (h : Int)].length = 2)) (ResL.cons (Res1.tmp rfl) (ResL.nil))) (hq := by exact ⟨rfl, rfl⟩)
set_option maxHeartbeats 8000000 in
theorem view_single (pv d : Nat) (v : VS) (leaf : Bool) (AR : Option Addr) (cr : Nat) (VV : List (Value × Value × Value)) (xs : List ND3) (h : Nat) (hv : v.ok) (hl : v.S.W.length ≤ 800000) (hxl : VV.length = xs.length) (hW : shp VV) (hR : ∀ x ∈ xs, ∀ e ∈ x.E, entR e) (hh : h ≤ 1000) (hG : sgG leaf v xs h) :
    Gv.Spec Tryz.prog 113 #[.pointer (some ⟨pv, 0, none⟩), .slice AR VV.length cr, .int .i64 (h : Int)] [blk pv 146 (viewL d v), DSK d v.S, own 125 4 (.slice AR VV.length cr) VV.length (NDL leaf VV), manyRd (RDS VV xs)]
    (fun r H' => r = .tuple #[.agg #[.int .i64 (sgN leaf v xs h).2.1.1, .int .i64 ((sgN leaf v xs h).2.1.2 : Int)], .int .i64 ((sgN leaf v xs h).2.2 : Int)] ∧ H' = [blk pv 146 (viewL d (sgN leaf v xs h).1), DSK d (sgN leaf v xs h).1.S]) := by
  refine Gv.Spec.of (fun w h0 hw => ?_)
  refine Calls.enter Tryz.func113 rfl rfl rfl hw ?_
  simp only [argSlots]
  refine Wap ?_
  obtain ⟨hx1, hlw⟩ := hG
  obtain ⟨R0, hR0⟩ : ∃ R, R = sgN leaf v xs h := ⟨_, rfl⟩
  rw [← hR0]
  rw [sgN] at hR0
  refine Ws ?_
  refine Zal fun b6 => ?_
  refine Ws ?_
  by_cases hx0 : xs.length = 0
  · rw [if_pos (Or.inl hx0)] at hR0
    refine Zz 14 true ?_ (hi := by rw [decide_eq_true]; omega)
    refine Ws ?_
    refine ZSa (ys := [.int .i64 0, .int .i64 0]) ?_ (h1 := by exact two_int _ _)
    refine Ws ?_
    rw [hR0]
    exact Zfn [blk pv 146 (viewL d v), DSK d v.S] (h := ResL.cons (Zra (rfl : [Value.int .i64 0, Value.int .i64 0].length = 2)) (ResL.cons (Res1.tmp rfl) (ResL.nil))) (hq := by exact ⟨rfl, rfl⟩)
  · have hx1' : xs.length = 1 := by omega
    obtain ⟨y, rfl⟩ : ∃ y, xs = [y] := ⟨xs[0]'(by omega), List.ext_getElem (by simp [hx1']) (fun i p q => by simp at q; subst q; rfl)⟩
    obtain ⟨vv, rfl⟩ : ∃ v, VV = [v] := ⟨VV[0]'(by rw [hxl]; simp), List.ext_getElem (by simp [hxl]) (fun i p q => by simp at q; subst q; rfl)⟩
    obtain ⟨A1, a1, B1, b1, C1, c1, i1, j1, k1, rfl⟩ := hW vv (List.mem_singleton.2 rfl)
    have hyd : ([y] : List ND3).getD 0 nd0 = y := rfl
    rw [hyd] at hR0 hlw
    have hRy := hR y (List.mem_singleton.2 rfl)
    have hmem := rds_at [(Value.slice A1 i1 a1, Value.slice B1 j1 b1, Value.slice C1 k1 c1)] [y] 0 _ y rfl rfl
    have hsz := node_Size leaf (.slice A1 i1 a1) (.slice B1 j1 b1) (.slice C1 k1 c1) y.E y.K y.D
    have hsz0 : sizeN leaf y.E y.D = szN leaf y := rfl
    rw [hsz0] at hsz
    obtain ⟨sz, hszd⟩ : ∃ sz, sz = szN leaf y := ⟨_, rfl⟩
    rw [← hszd] at hsz hR0
    obtain ⟨l, hld⟩ : ∃ l, l = RDS [(Value.slice A1 i1 a1, Value.slice B1 j1 b1, Value.slice C1 k1 c1)] [y] := ⟨_, rfl⟩
    rw [← hld] at hmem ⊢
    have hlen1 : [(Value.slice A1 i1 a1, Value.slice B1 j1 b1, Value.slice C1 k1 c1)].length = 1 := rfl
    rw [hlen1]
    refine Zz 14 false ?_
    refine Ws ?_
    refine Zix (j := 0) ?_ (hj := by rfl) (hlt := by exact (by decide : 0 < 1))
    refine Ws ?_
    refine Zlq ?_ (hv := by exact NDL_at _ 0 _ rfl) (hl := by rfl)
    refine Ws ?_
    refine Zcv hsz ?_ (hpre := by exact fun w' hw' => ⟨rdw_many Wp hmem.1 w' hw', rdw_many Wp hmem.2.1 w' hw', rdw_many Wp hmem.2.2 w' hw'⟩)
    refine Ws ?_
    by_cases hs0 : sz = 0
    · rw [if_pos (Or.inr hs0)] at hR0
      refine Zz 10 true ?_ (hi := by rw [decide_eq_true]; omega)
      refine Ws ?_
      refine ZSa (ys := [.int .i64 0, .int .i64 0]) ?_ (h1 := by exact two_int _ _)
      refine Ws ?_
      rw [hR0]
      exact Zfn [blk pv 146 (viewL d v), DSK d v.S] (h := ResL.cons (Zra (rfl : [Value.int .i64 0, Value.int .i64 0].length = 2)) (ResL.cons (Res1.tmp rfl) (ResL.nil))) (hq := by exact ⟨rfl, rfl⟩)
    · rw [if_neg (fun c => c.elim hx0 hs0)] at hR0
      refine Zz 10 false ?_ (hi := by exact decide_eq_false (by omega))
      refine Ws ?_
      refine Zix (j := 0) ?_ (hj := by rfl) (hlt := by exact (by decide : 0 < 1))
      refine Ws ?_
      refine Zlo (j := 0 * 4 + 0) (v := .bool leaf) ?_
      refine Ws ?_
      have hwr := view_write pv d v leaf (.slice A1 i1 a1) (.slice B1 j1 b1) (.slice C1 k1 c1) y l hv hl hmem.1 hmem.2.1 hmem.2.2 hRy
      by_cases hs1 : leaf = false ∧ sz = 1
      · obtain ⟨rfl, hs2⟩ := hs1
        rw [if_pos ⟨rfl, hs2⟩] at hR0
        obtain ⟨hh1, hG1⟩ := hlw rfl (by rw [← hszd]; exact hs2)
        have hdl : y.D.length = 1 := by rw [← hs2, hszd]; rfl
        have hN0 : (NL y.D)[0]? = some (.int .i64 (y.D.getD 0 0)) := by
          obtain ⟨x, l', hx⟩ : ∃ x l', y.D = x :: l' := by
            cases hh' : y.D with
            | nil => rw [hh'] at hdl; exact absurd hdl (by decide)
            | cons x l' => exact ⟨x, l', rfl⟩
          rw [hx]; rfl
        have hlt0 : 0 < y.D.length := by omega
        have hltl : 0 * 1 < (NL y.D).length := by rw [NL_lens y.D rfl]; omega
        have hlow := view_lower pv d v (y.D.getD 0 0) (h - 1) hv (by omega) (by omega) hG1
        rw [← hR0] at hlow
        refine Zz 28 true ?_
        refine Ws ?_
        refine Zix (j := 0) ?_ (hj := by rfl) (hlt := by exact (by decide : 0 < 1))
        refine Ws ?_
        refine Zlq ?_ (hv := by exact NDL_at _ 0 _ rfl) (hl := by rfl)
        refine Ws ?_
        refine Zcv hsz ?_ (hpre := by exact fun w' hw' => ⟨rdw_many Wp hmem.1 w' hw', rdw_many Wp hmem.2.1 w' hw', rdw_many Wp hmem.2.2 w' hw'⟩)
        refine Ws ?_
        refine Zz 22 true ?_ (hi := by rw [decide_eq_true]; omega)
        refine Ws ?_
        refine Zix (j := 0) ?_ (hj := by rfl) (hlt := by exact (by decide : 0 < 1))
        refine Ws ?_
        refine Zlo (j := 0 * 4 + 3) (v := .slice C1 k1 c1) ?_
        refine Ws ?_
        refine ZoixW (j := 0) ?_ (hr := by exact rdw_many Wp hmem.2.2) (hj := by rfl) (hlt := by exact hlt0) (hl := by exact hltl)
        refine Ws ?_
        refine ZoloadW ?_ (hr := by exact rdw_many Wp hmem.2.2) (hv := by exact hN0)
        refine Ws ?_
        refine Zi 43 ((h - 1 : Nat) : Int) ?_ (hi := by omega)
        refine Ws ?_
        refine Zd hlow ?_
        refine Ws ?_
        refine ZSa (ys := [.int .i64 R0.2.1.1, .int .i64 (R0.2.1.2 : Int)]) ?_ (h1 := by exact two_int _ _)
        refine Ws ?_
        exact Zfn [blk pv 146 (viewL d R0.1), DSK d R0.1.S] (h := ResL.cons (Zra (rfl : [Value.int .i64 R0.2.1.1, Value.int .i64 (R0.2.1.2 : Int)].length = 2)) (ResL.cons (Res1.tmp rfl) (ResL.nil))) (hq := by exact ⟨rfl, rfl⟩)
      · rw [if_neg hs1] at hR0
        cases leaf with
        | true =>
          refine Zz 28 false ?_
          refine Ws ?_
          refine Zix (j := 0) ?_ (hj := by rfl) (hlt := by exact (by decide : 0 < 1))
          refine Ws ?_
          refine Zlq ?_ (hv := by exact NDL_at _ 0 _ rfl) (hl := by rfl)
          refine Ws ?_
          refine Zd hwr ?_
          refine Ws ?_
          refine Zbu (ys := [.int .i64 (wrN v true y).2.1, .int .i64 (h : Int)]) ?_
          refine Ws ?_
          refine ZSa (ys := [.int .i64 (wrN v true y).2.1, .int .i64 (h : Int)]) ?_ (h1 := by exact two_int _ _)
          refine Ws ?_
          rw [hR0]
          exact Zfn [blk pv 146 (viewL d (wrN v true y).1), DSK d (wrN v true y).1.S] (h := ResL.cons (Zra (rfl : [Value.int .i64 (wrN v true y).2.1, Value.int .i64 (h : Int)].length = 2)) (ResL.cons (Res1.tmp rfl) (ResL.nil))) (hq := by exact ⟨rfl, rfl⟩)
        | false =>
          refine Zz 28 true ?_
          refine Ws ?_
          refine Zix (j := 0) ?_ (hj := by rfl) (hlt := by exact (by decide : 0 < 1))
          refine Ws ?_
          refine Zlq ?_ (hv := by exact NDL_at _ 0 _ rfl) (hl := by rfl)
          refine Ws ?_
          refine Zcv hsz ?_ (hpre := by exact fun w' hw' => ⟨rdw_many Wp hmem.1 w' hw', rdw_many Wp hmem.2.1 w' hw', rdw_many Wp hmem.2.2 w' hw'⟩)
          refine Ws ?_
          refine Zz 22 false ?_ (hi := by exact decide_eq_false (fun c => hs1 ⟨rfl, by omega⟩))
          refine Ws ?_
          refine Zix (j := 0) ?_ (hj := by rfl) (hlt := by exact (by decide : 0 < 1))
          refine Ws ?_
          refine Zlq ?_ (hv := by exact NDL_at _ 0 _ rfl) (hl := by rfl)
          refine Ws ?_
          refine Zd hwr ?_
          refine Ws ?_
          refine Zbu (ys := [.int .i64 (wrN v false y).2.1, .int .i64 (h : Int)]) ?_
          refine Ws ?_
          refine ZSa (ys := [.int .i64 (wrN v false y).2.1, .int .i64 (h : Int)]) ?_ (h1 := by exact two_int _ _)
          refine Ws ?_
          rw [hR0]
          exact Zfn [blk pv 146 (viewL d (wrN v false y).1), DSK d (wrN v false y).1.S] (h := ResL.cons (Zra (rfl : [Value.int .i64 (wrN v false y).2.1, Value.int .i64 (h : Int)].length = 2)) (ResL.cons (Res1.tmp rfl) (ResL.nil))) (hq := by exact ⟨rfl, rfl⟩)
end Go.Proofs.YtcglabmlhljkmaaGreat
end
section
/- tree: nodes of one height, and as many above them as must be: the walk. -/
namespace Go.Proofs.YtcglabmlhljkmaaGreat
open Go Go.RowKit Go.Gv
set_option linter.unusedVariables false
set_option linter.unusedSimpArgs false

theorem rd_noneU (w : World) : RdW w (.slice none 0 0) 0 [] := ⟨none, 0, rfl, ⟨by simp, by decide⟩, fun j u h => by simp at h⟩
theorem rk_len {a b g n : Nat} (h1 : a + (g + 1 + 1) * 4000 ≤ 800000) (h2 : b ≤ a + 4 * n) (h3 : n ≤ 1000) : b + (g + 1) * 4000 ≤ 800000 := by rw [Nat.add_mul (g + 1) 1 4000] at h1; omega
/-- a level that is to be written -/
structure RK (R0 : VS × (Int × Nat) × Nat) where
  f : Nat
  leaf : Bool
  v : VS
  xs : List ND3
  h : Nat
  AR : Option Addr
  cr : Nat
  VV : List (Value × Value × Value)
  hR0 : roN f leaf v xs h = R0
  hG : roG f leaf v xs h
  hv : v.ok
  hl : v.S.W.length + (f + 1) * 4000 ≤ 800000
  hn : xs.length ≤ 1000
  hh : h + f ≤ 1000
  hxl : VV.length = xs.length
  hW : shp VV
  hR : ∀ x ∈ xs, ∀ e ∈ x.E, entR e
set_option maxHeartbeats 8000000 in
theorem view_root (pv d f : Nat) (v : VS) (leaf : Bool) (AR : Option Addr) (cr : Nat) (VV : List (Value × Value × Value)) (xs : List ND3) (h : Nat) (hG : roG f leaf v xs h) (hv : v.ok) (hl : v.S.W.length + (f + 1) * 4000 ≤ 800000) (hn : xs.length ≤ 1000) (hh : h + f ≤ 1000) (hxl : VV.length = xs.length) (hW : shp VV) (hR : ∀ x ∈ xs, ∀ e ∈ x.E, entR e) :
    Gv.Spec Tryz.prog 68 #[.pointer (some ⟨pv, 0, none⟩), .slice AR VV.length cr, .int .i64 (h : Int)] [blk pv 146 (viewL d v), DSK d v.S, own 125 4 (.slice AR VV.length cr) VV.length (NDL leaf VV), manyRd (RDS VV xs)]
    (fun r H' => r = .tuple #[.agg #[.int .i64 (roN f leaf v xs h).2.1.1, .int .i64 ((roN f leaf v xs h).2.1.2 : Int)], .int .i64 ((roN f leaf v xs h).2.2 : Int)] ∧ H' = [blk pv 146 (viewL d (roN f leaf v xs h).1), DSK d (roN f leaf v xs h).1.S]) := by
  refine Gv.Spec.of (fun w h0 hw => ?_)
  refine Calls.enter Tryz.func68 rfl rfl rfl hw ?_
  simp only [argSlots]
  refine Wap ?_
  obtain ⟨R0, hR0⟩ : ∃ R, R = roN f leaf v xs h := ⟨_, rfl⟩
  rw [← hR0]
  refine Ws ?_
  refine Zal fun b6 => ?_
  refine Ws ?_
  (refine Wl (α := RK R0) (fun x => x.f) (fun x => [(0, .pointer (some ⟨pv, 0, none⟩)), (1, .slice x.AR x.VV.length x.cr), (2, .int .i64 (x.h : Int)), (6, .pointer (some ⟨b6, 0, none⟩))]) (fun x => [blk b6 43 [.int .i64 0, .int .i64 0], blk pv 146 (viewL d x.v), DSK d x.v.S, own 125 4 (.slice x.AR x.VV.length x.cr) x.VV.length (NDL x.leaf x.VV), manyRd (RDS x.VV x.xs), Ex h0]) ⟨f, leaf, v, xs, h, AR, cr, VV, hR0.symm, hG, hv, hl, hn, hh, hxl, hW, hR⟩ ?_; rintro ⟨f, leaf, v, xs, h, AR, cr, VV, hR0', hG, hv, hl, hn, hh, hxl, hW, hR⟩ mx hmx; (try dsimp only at hmx ⊢))
  refine Ws ?_
  (refine Wcd ?_ ?_ <;> intro hc)
  · have hx2 : 1 < xs.length := by omega
    obtain ⟨g, rfl⟩ : ∃ g, f = g + 1 := by
      cases f with
      | zero => exact absurd hG.1 (by omega)
      | succ g => exact ⟨g, rfl⟩
    rw [roN, if_pos hx2] at hR0'
    have hG1 := hG.1 hx2
    have huc := unN_cnt (leaf := leaf) (v := v) (xs := xs)
    have hok := unGo_ok leaf xs hv
    have hln := unGo_len leaf xs v
    have hu1 : (unN leaf v xs).1 = (unGo leaf v xs).1 := rfl
    rw [← hu1] at hok hln
    have hun := view_under pv d v leaf AR cr VV xs hv hxl (by omega) (by omega) hW hR
    obtain ⟨U, hU⟩ : ∃ U, U = unN leaf v xs := ⟨_, rfl⟩
    rw [← hU] at hR0' huc hok hln hun hG1
    refine Ws ?_
    refine Zcs hun ?_
    rintro r1 H1 ⟨A, a, B, b, rfl, rfl⟩
    refine Wap ?_
    refine Ws ?_
    refine Zal fun b8 => ?_
    refine Ws ?_
    refine ZSa (ys := ndLL false (.slice none 0 0) (.slice A U.2.1.K.length a) (.slice B U.2.1.D.length b)) ?_ (h1 := by exact ndLL_one false none A B 0 0 _ a _ b)
    refine Ws ?_
    by_cases hz : U.2.2 = 0
    · refine Zz 20 false ?_ (hi := by rw [hz]; rfl)
      rw [if_pos hz] at hR0'
      obtain ⟨hUE, hUK, hUD⟩ := huc hz
      have hG2 := hG1 hz
      have hXo : okN false U.2.1 := ⟨hUE, by rw [hUK, hUD]⟩
      have hXs : szN false U.2.1 = xs.length := hUD
      have hspE := splitN_E hXo
      have hspL := splN_len (leaf := false) (szN false U.2.1 + 1) U.2.1
      obtain ⟨X, hX⟩ : ∃ X, X = U.2.1 := ⟨_, rfl⟩
      rw [← hX] at hR0' hG2 hXo hXs hspE hspL ⊢
      have hsq : splN false (szN false X + 1) X = splitN false X := rfl
      rw [hsq] at hspL
      have hE0 : X.E = [] := hXo.1
      have hsp := node_Split false (szN false X) X (.slice none 0 0) (.slice A X.K.length a) (.slice B X.D.length b) hXo (Nat.le_refl _) (by omega)
      refine Ws ?_
      refine Zla (cs := ndLL false (.slice none 0 0) (.slice A X.K.length a) (.slice B X.D.length b)) ?_ (hl := by rfl)
      refine Ws ?_
      refine Zcr hsp ?_ (hpre := by exact fun w' hw' => ⟨by rw [hE0]; exact rd_noneU w', rdw_own (v := .slice A X.K.length a) Wp w' hw', rdw_own (v := .slice B X.D.length b) Wp w' hw'⟩)
      rintro r2 H2 ⟨VS, hVS, hW2, rfl⟩
      refine Wap ?_
      (refine Tri.shape (e := 125) (size := 4) (v := r2) Wp ?_; rintro ⟨AR2, cr2, rfl⟩)
      rw [hsq] at hVS
      rw [hsq]
      refine Ws ?_
      refine Zi 2 ((h + 1 : Nat) : Int) ?_ (hi := by omega)
      have hW3 : shp VS := hW2
      have g1 := rk_len hl hln hn
      have g2 : (splitN false X).length ≤ 1000 := by omega
      have g3 : h + 1 + g ≤ 1000 := by omega
      exact Zag ⟨g, false, U.1, splitN false X, h + 1, AR2, cr2, VS, hR0', hG2, hok, g1, g2, g3, hVS, hW3, hspE⟩
    · refine Zz 20 true ?_ (hi := by rw [decide_eq_true]; omega)
      rw [if_neg hz] at hR0'
      refine Ws ?_
      refine ZSa (ys := [.int .i64 0, .int .i64 0]) ?_ (h1 := by exact two_int _ _)
      refine Ws ?_
      rw [← hR0']
      exact Zfn [blk pv 146 (viewL d U.1), DSK d U.1.S] (h := ResL.cons (Zra (rfl : [Value.int .i64 0, Value.int .i64 0].length = 2)) (ResL.cons (Res1.tmp rfl) (ResL.nil))) (hq := by exact ⟨rfl, rfl⟩)
  · have hx1 : xs.length ≤ 1 := by omega
    rw [roN_fin hx1] at hR0'
    refine Ws ?_
    by_cases hb : 5 < h
    · rw [if_pos hb] at hR0'
      refine Zz 28 true ?_ (hi := by rw [decide_eq_true]; omega)
      refine Ws ?_
      refine ZSa (ys := [.int .i64 0, .int .i64 0]) ?_ (h1 := by exact two_int _ _)
      refine Ws ?_
      rw [← hR0']
      exact Zfn [blk pv 146 (viewL d v), DSK d v.S] (h := ResL.cons (Zra (rfl : [Value.int .i64 0, Value.int .i64 0].length = 2)) (ResL.cons (Res1.tmp rfl) (ResL.nil))) (hq := by exact ⟨rfl, rfl⟩)
    · rw [if_neg hb] at hR0'
      have hsg := view_single pv d v leaf AR cr VV xs h hv (by omega) hxl hW hR (by omega) (roG_fin hx1 hG (by omega))
      rw [hR0'] at hsg
      refine Zz 28 false ?_ (hi := by exact decide_eq_false (by omega))
      refine Ws ?_
      refine Zd hsg ?_
      refine Ws ?_
      refine ZSa (ys := [.int .i64 R0.2.1.1, .int .i64 (R0.2.1.2 : Int)]) ?_ (h1 := by exact two_int _ _)
      refine Ws ?_
      exact Zfn [blk pv 146 (viewL d R0.1), DSK d R0.1.S] (h := ResL.cons (Zra (rfl : [Value.int .i64 R0.2.1.1, Value.int .i64 (R0.2.1.2 : Int)].length = 2)) (ResL.cons (Res1.tmp rfl) (ResL.nil))) (hq := by exact ⟨rfl, rfl⟩)
end Go.Proofs.YtcglabmlhljkmaaGreat
end
section
/- slices: Replace and Insert at the end (printed by mkslends.py). -/
namespace Go.Proofs.YtcglabmlhljkmaaGreat
open Go Go.RowKit Go.Gv
set_option linter.unusedVariables false
set_option linter.unusedSimpArgs false

set_option maxRecDepth 4000 in
set_option maxHeartbeats 8000000 in
theorem slices_ReplEndint (A : Option Addr) (n c i : Nat) (u : Value) (m : Nat) (xs ys : List Value) (hi : i < n) (him : n ≤ i + m) (hb : n + m ≤ 100000) (hc : 0 < m) (h1 : ∀ y ∈ ys, y.oneCell' = true) (hl : ys.length = m * 1) (hxl : xs.length = n * 1) :
    Gv.Spec Tryz.prog 150 #[.slice A n c, .int .i64 (i : Int), .int .i64 (n : Int), u] [own 3 1 (.slice A n c) n xs, own 3 1 u m ys]
    (fun r H' => ∃ A' c', r = .slice A' (i + m) c' ∧ H' = [own 3 1 (.slice A' (i + m) c') (i + m) (xs.take (i * 1) ++ ys), own 3 1 u m ys]) := by
  refine Gv.Spec.of (fun w h0 hw => ?_)
  refine Calls.enter Tryz.func150 rfl rfl rfl hw ?_
  simp only [argSlots]
  refine Wap ?_
  refine Ws ?_
  refine Zsl (lo := i) (hi := n) (m := n) (xs := xs) ?_ (hr := by exact rdw_own (v := .slice A n c) Wp)
  refine Ws ?_
  refine Zz 21 false ?_ (hi := by exact decide_eq_false (by omega))
  refine Ws ?_
  refine Zz 29 true ?_ (hi := by exact decide_eq_true rfl)
  refine Ws ?_
  refine Zsl (lo := 0) (hi := i) (m := n) (xs := xs) ?_ (hr := by exact rdw_own (v := .slice A n c) Wp)
  refine Ws ?_
  refine Tri.ownCut (v := .slice A n c) (e := 3) (size := 1) i Wp (Nat.le_of_lt hi) ?_
  refine Zap (m2 := m) (news := ys) ?_ (hr := by exact rdw_own (v := u) Wp) (hl := by exact hl) (h1 := by exact h1)
  intro vr
  (refine Tri.shape (e := 3) (size := 1) (v := vr) Wp ?_; rintro ⟨A2, c2, rfl⟩)
  refine Ws ?_
  refine Zz 39 false ?_ (hi := by exact decide_eq_false (by omega))
  refine Ws ?_
  exact Zfn [own 3 1 (.slice A2 (i + m) c2) (i + m) (xs.take (i * 1) ++ ys), own 3 1 u m ys] (hq := by exact ⟨A2, c2, rfl, rfl⟩)
set_option maxRecDepth 4000 in
set_option maxHeartbeats 8000000 in
theorem slices_ReplEndKey (A : Option Addr) (n c i : Nat) (u : Value) (m : Nat) (xs ys : List Value) (hi : i < n) (him : n ≤ i + m) (hb : n + m ≤ 100000) (hc : 0 < m) (h1 : ∀ y ∈ ys, y.oneCell' = true) (hl : ys.length = m * 2) (hxl : xs.length = n * 2) :
    Gv.Spec Tryz.prog 149 #[.slice A n c, .int .i64 (i : Int), .int .i64 (n : Int), u] [own 38 2 (.slice A n c) n xs, own 38 2 u m ys]
    (fun r H' => ∃ A' c', r = .slice A' (i + m) c' ∧ H' = [own 38 2 (.slice A' (i + m) c') (i + m) (xs.take (i * 2) ++ ys), own 38 2 u m ys]) := by
  refine Gv.Spec.of (fun w h0 hw => ?_)
  refine Calls.enter Tryz.func149 rfl rfl rfl hw ?_
  simp only [argSlots]
  refine Wap ?_
  refine Ws ?_
  refine Zsl (lo := i) (hi := n) (m := n) (xs := xs) ?_ (hr := by exact rdw_own (v := .slice A n c) Wp)
  refine Ws ?_
  refine Zz 21 false ?_ (hi := by exact decide_eq_false (by omega))
  refine Ws ?_
  refine Zz 29 true ?_ (hi := by exact decide_eq_true rfl)
  refine Ws ?_
  refine Zsl (lo := 0) (hi := i) (m := n) (xs := xs) ?_ (hr := by exact rdw_own (v := .slice A n c) Wp)
  refine Ws ?_
  refine Tri.ownCut (v := .slice A n c) (e := 38) (size := 2) i Wp (Nat.le_of_lt hi) ?_
  refine Zap (m2 := m) (news := ys) ?_ (hr := by exact rdw_own (v := u) Wp) (hl := by exact hl) (h1 := by exact h1)
  intro vr
  (refine Tri.shape (e := 38) (size := 2) (v := vr) Wp ?_; rintro ⟨A2, c2, rfl⟩)
  refine Ws ?_
  refine Zz 39 false ?_ (hi := by exact decide_eq_false (by omega))
  refine Ws ?_
  exact Zfn [own 38 2 (.slice A2 (i + m) c2) (i + m) (xs.take (i * 2) ++ ys), own 38 2 u m ys] (hq := by exact ⟨A2, c2, rfl, rfl⟩)
set_option maxRecDepth 4000 in
set_option maxHeartbeats 8000000 in
theorem slices_InsEndEntry (A : Option Addr) (n c : Nat) (u : Value) (m : Nat) (xs ys : List Value) (hb : n + m ≤ 100000) (hc : 0 < m) (h1 : ∀ y ∈ ys, y.oneCell' = true) (hl : ys.length = m * 8) :
    Gv.Spec Tryz.prog 118 #[.slice A n c, .int .i64 (n : Int), u] [own 40 8 (.slice A n c) n xs, own 40 8 u m ys]
    (fun r H' => ∃ A' c', r = .slice A' (n + m) c' ∧ H' = [own 40 8 (.slice A' (n + m) c') (n + m) (xs ++ ys), own 40 8 u m ys]) := by
  refine Gv.Spec.of (fun w h0 hw => ?_)
  refine Calls.enter Tryz.func118 rfl rfl rfl hw ?_
  simp only [argSlots]
  refine Wap ?_
  refine Ws ?_
  refine Zsl (lo := n) (hi := n) (m := n) (xs := xs) ?_ (hr := by exact rdw_own (v := .slice A n c) Wp)
  refine Ws ?_
  refine Zz 16 false ?_ (hi := by exact decide_eq_false (by omega))
  refine Ws ?_
  refine Zz 22 true ?_ (hi := by exact decide_eq_true rfl)
  refine Ws ?_
  refine Zap (m2 := m) (news := ys) ?_ (hr := by exact rdw_own (v := u) Wp) (hl := by exact hl) (h1 := by exact h1)
  intro vr
  (refine Tri.shape (e := 40) (size := 8) (v := vr) Wp ?_; rintro ⟨A2, c2, rfl⟩)
  refine Ws ?_
  exact Zfn [own 40 8 (.slice A2 (n + m) c2) (n + m) (xs ++ ys), own 40 8 u m ys] (hq := by exact ⟨A2, c2, rfl, rfl⟩)
end Go.Proofs.YtcglabmlhljkmaaGreat
end
section
/- tree: a node with others in its last child's place: the walk. -/
namespace Go.Proofs.YtcglabmlhljkmaaGreat
open Go Go.RowKit Go.Gv
set_option linter.unusedVariables false
set_option linter.unusedSimpArgs false

theorem KL_takes (l : List KEY) (i : Nat) : (KL l).take (i * 2) = KL (l.take i) := by
  have h := flat_cut (f := keyL) keyL_len5 l 0 i
  rw [Nat.zero_mul, List.drop_zero, List.drop_zero, Nat.sub_zero] at h
  exact h
theorem NL_takes (l : List Int) (i : Nat) : (NL l).take (i * 1) = NL (l.take i) := by
  rw [Nat.mul_one, NL, NL, List.map_take]
set_option maxHeartbeats 8000000 in
theorem view_replaced (pv d : Nat) (v : VS) (leaf : Bool) (A0 : Option Addr) (c0 : Nat) (A : Option Addr) (a : Nat) (B : Option Addr) (b : Nat) (y : ND3) (i c : Nat) (AR : Option Addr) (cr : Nat) (VV : List (Value × Value × Value)) (xs : List ND3)
    (hv : v.ok) (hl : v.S.W.length + 4 * xs.length ≤ 800000) (hn : xs.length ≤ 1000) (hxl : VV.length = xs.length) (hW : shp VV) (hR : ∀ x ∈ xs, ∀ e ∈ x.E, entR e)
    (hy : okN false y) (hyn : y.D.length ≤ 1000) (hi : i < y.D.length) (hic : i + c = y.D.length) (hcm : c ≤ xs.length) (hx0 : 0 < xs.length) :
    Gv.Spec Tryz.prog 111 #[.pointer (some ⟨pv, 0, none⟩), ndW false (.slice A0 y.E.length c0) (.slice A y.K.length a) (.slice B y.D.length b), .int .i64 (i : Int), .int .i64 (c : Int), .slice AR VV.length cr]
    [blk pv 146 (viewL d v), DSK d v.S, own 125 4 (.slice AR VV.length cr) VV.length (NDL leaf VV), manyRd (RDS VV xs), own 40 8 (.slice A0 y.E.length c0) y.E.length (EL y.E), own 38 2 (.slice A y.K.length a) y.K.length (KL y.K), own 3 1 (.slice B y.D.length b) y.D.length (NL y.D)]
    (fun r H' => ∃ (AZ : Option Addr) (cz : Nat) (VZ : List (Value × Value × Value)), r = .tuple #[.slice AZ VZ.length cz, .int .i64 ((rpN leaf v y i c xs).2.2 : Int)] ∧ VZ.length = (rpN leaf v y i c xs).2.1.length ∧ shp VZ
      ∧ H' = [blk pv 146 (viewL d (rpN leaf v y i c xs).1), DSK d (rpN leaf v y i c xs).1.S, own 125 4 (.slice AZ VZ.length cz) VZ.length (NDL false VZ), manyRd (RDS VZ (rpN leaf v y i c xs).2.1)]) := by
  refine Gv.Spec.of (fun w h0 hw => ?_)
  refine Calls.enter Tryz.func111 rfl rfl rfl hw ?_
  simp only [argSlots]
  refine Wap ?_
  obtain ⟨R0, hR0⟩ : ∃ R, R = rpN leaf v y i c xs := ⟨_, rfl⟩
  rw [← hR0]
  rw [rpN] at hR0
  have huc := unN_cnt (leaf := leaf) (v := v) (xs := xs)
  have hun := view_under pv d v leaf AR cr VV xs hv hxl (by omega) hl hW hR
  obtain ⟨U, hU⟩ : ∃ U, U = unN leaf v xs := ⟨_, rfl⟩
  rw [← hU] at hR0 huc hun
  obtain ⟨hyE, hyK⟩ := hy
  refine Ws ?_
  (refine Wbx ?_; intro b6)
  refine Ws ?_
  refine Zcs hun ?_
  rintro r1 H1 ⟨A1, a1, B1, b1, rfl, rfl⟩
  refine Wap ?_
  refine Ws ?_
  refine Zal fun b12 => ?_
  refine Ws ?_
  refine ZSa (ys := ndLL false (.slice none 0 0) (.slice A1 U.2.1.K.length a1) (.slice B1 U.2.1.D.length b1)) ?_ (h1 := by exact ndLL_one false none A1 B1 0 0 _ a1 _ b1)
  refine Ws ?_
  by_cases hz : U.2.2 = 0
  · refine Zz 21 false ?_ (hi := by rw [hz]; rfl)
    rw [if_pos hz] at hR0
    obtain ⟨hUE, hUK, hUD⟩ := huc hz
    obtain ⟨X, hX⟩ : ∃ X, X = U.2.1 := ⟨_, rfl⟩
    rw [← hX] at hR0 hUE hUK hUD ⊢
    obtain ⟨m, hm⟩ : ∃ m, m = xs.length := ⟨_, rfl⟩
    rw [← hm] at hUK hUD hcm hx0 hn
    obtain ⟨n, hn'⟩ : ∃ n, n = y.D.length := ⟨_, rfl⟩
    rw [← hn'] at hyn hi hic hyK
    rw [hUK, hUD, ← hn', hyK]
    have hkl : (KL y.K).length = n * 2 := KL_lens _ hyK
    have hnl : (NL y.D).length = n * 1 := NL_lens _ hn'.symm
    have hkl2 : (KL X.K).length = m * 2 := KL_lens _ hUK
    have hnl2 : (NL X.D).length = m * 1 := NL_lens _ hUD
    have hicz : (n : Int) = (i : Int) + (c : Int) := by omega
    refine Ws ?_
    refine Znm 11 [blk b12 125 (ndLL false (.slice none 0 0) (.slice A1 m a1) (.slice B1 m b1)), own 38 2 (.slice A n a) n (KL y.K)] [blk b12 125 (ndLL false (.slice none 0 0) (.slice A1 m a1) (.slice B1 m b1)), own 38 2 (.slice A n a) n (KL y.K), blk b6 125 (ndLL false (.slice A0 y.E.length c0) (.slice A n a) (.slice B n b))] ?_
    refine Wnq [0, 1, 3, 4, 5, 6, 7, 8] ?_
    refine Zna 2 ?_
    refine Zcr (slices_CloneKey (.slice A n a) n (KL y.K) hkl (KL_ones _) (by omega)) ?_ (hpre := by exact rdw_own (v := .slice A n a) Wp)
    rintro u1 H1 rfl
    refine Wap ?_
    (refine Tri.shape (e := 38) (size := 2) (v := u1) Wp ?_; rintro ⟨A3, a3, rfl⟩)
    have hrK := slices_ReplEndKey A3 n a3 i (.slice A1 m a1) m (KL y.K) (KL X.K) hi (by omega) (by omega) hx0 (KL_ones _) hkl2 hkl
    rw [hicz] at hrK
    refine Znb ?_
    refine Zna 9 ?_
    refine Zcs hrK ?_
    rintro r3 H3 ⟨A4, a4, rfl, rfl⟩
    refine Wap ?_
    refine Znb ?_
    refine Wnp [10] ?_
    refine Znl ?_
    refine ZS ?_ (hi := by exact (by decide : 2 < 4))
    refine Zw ?_
    refine ZE ?_
    refine Ws ?_
    refine Znm 11 [blk b12 125 (ndLL false (.slice none 0 0) (.slice A1 m a1) (.slice B1 m b1)), own 3 1 (.slice B n b) n (NL y.D)] [blk b12 125 (ndLL false (.slice none 0 0) (.slice A1 m a1) (.slice B1 m b1)), own 3 1 (.slice B n b) n (NL y.D), blk b6 125 (ndLL false (.slice A0 y.E.length c0) (.slice A4 (i + m) a4) (.slice B n b))] ?_
    refine Wnq [0, 1, 3, 4, 5, 6, 7, 8] ?_
    refine Zna 2 ?_
    refine Zcr (slices_Cloneint (.slice B n b) n (NL y.D) hnl (NL_one5 _) (by omega)) ?_ (hpre := by exact rdw_own (v := .slice B n b) Wp)
    rintro u2 H2 rfl
    refine Wap ?_
    (refine Tri.shape (e := 3) (size := 1) (v := u2) Wp ?_; rintro ⟨B3, b3, rfl⟩)
    have hrD := slices_ReplEndint B3 n b3 i (.slice B1 m b1) m (NL y.D) (NL X.D) hi (by omega) (by omega) hx0 (NL_one5 _) hnl2 hnl
    rw [hicz] at hrD
    refine Znb ?_
    refine Zna 9 ?_
    refine Zcs hrD ?_
    rintro r4 H4 ⟨B4, b4, rfl, rfl⟩
    refine Wap ?_
    refine Znb ?_
    refine Wnp [10] ?_
    refine Znl ?_
    refine ZS ?_ (hi := by exact (by decide : 3 < 4))
    refine Zw ?_
    refine ZE ?_
    obtain ⟨Z, hZ⟩ : ∃ Z : ND3, Z = ⟨y.E, y.K.take i ++ X.K ++ y.K.drop (i + c), y.D.take i ++ X.D ++ y.D.drop (i + c)⟩ := ⟨_, rfl⟩
    rw [← hZ] at hR0
    have hkz : (KL y.K).take (i * 2) ++ KL X.K = KL Z.K := by
      rw [hZ]
      show _ = KL (y.K.take i ++ X.K ++ y.K.drop (i + c))
      rw [List.drop_eq_nil_of_le (by omega), List.append_nil, KL_app, KL_takes]
    have hdz : (NL y.D).take (i * 1) ++ NL X.D = NL Z.D := by
      rw [hZ]
      show _ = NL (y.D.take i ++ X.D ++ y.D.drop (i + c))
      rw [List.drop_eq_nil_of_le (by omega), List.append_nil, NL_app, NL_takes]
    have hZK : Z.K.length = i + m := by
      rw [hZ]
      show (y.K.take i ++ X.K ++ y.K.drop (i + c)).length = _
      rw [List.drop_eq_nil_of_le (by omega), List.append_nil, List.length_append, List.length_take]; omega
    have hZD : Z.D.length = i + m := by
      rw [hZ]
      show (y.D.take i ++ X.D ++ y.D.drop (i + c)).length = _
      rw [List.drop_eq_nil_of_le (by omega), List.append_nil, List.length_append, List.length_take]; omega
    have hZE : Z.E = y.E := by rw [hZ]
    have hZo : okN false Z := ⟨by rw [hZE]; exact hyE, by rw [hZK, hZD]⟩
    have hZs : szN false Z = i + m := hZD
    have hsp := node_Split false (szN false Z) Z (.slice A0 y.E.length c0) (.slice A4 (i + m) a4) (.slice B4 (i + m) b4) hZo (Nat.le_refl _) (by omega)
    have hsq : splN false (szN false Z + 1) Z = splitN false Z := rfl
    refine Zat (own 38 2 (.slice A4 (i + m) a4) _ _) (own 38 2 (.slice A4 (i + m) a4) (i + m) (KL Z.K)) ?_ (e := by rw [hkz])
    refine Zat (own 3 1 (.slice B4 (i + m) b4) _ _) (own 3 1 (.slice B4 (i + m) b4) (i + m) (NL Z.D)) ?_ (e := by rw [hdz])
    refine Ws ?_
    refine Zla (cs := ndLL false (.slice A0 y.E.length c0) (.slice A4 (i + m) a4) (.slice B4 (i + m) b4)) ?_ (hl := by rfl)
    refine Ws ?_
    refine Zcr hsp ?_ (hpre := by exact fun w' hw' => ⟨by rw [hZE]; exact rdw_own (v := .slice A0 y.E.length c0) Wp w' hw', by rw [hZK]; exact rdw_own (v := .slice A4 (i + m) a4) Wp w' hw', by rw [hZD]; exact rdw_own (v := .slice B4 (i + m) b4) Wp w' hw'⟩)
    rintro r5 H5 ⟨VZ, hVZ, hWZ, rfl⟩
    refine Wap ?_
    (refine Tri.shape (e := 125) (size := 4) (v := r5) Wp ?_; rintro ⟨AZ, cz, rfl⟩)
    rw [hsq] at hVZ
    rw [hsq]
    refine Ws ?_
    rw [hR0]
    exact Zfn [blk pv 146 (viewL d U.1), DSK d U.1.S, own 125 4 (.slice AZ VZ.length cz) VZ.length (NDL false VZ), manyRd (RDS VZ (splitN false Z))] (hq := by exact ⟨AZ, cz, VZ, rfl, hVZ, hWZ, rfl⟩)
  · refine Zz 21 true ?_ (hi := by rw [decide_eq_true]; omega)
    rw [if_neg hz] at hR0
    refine Ws ?_
    (with_reducible apply Tri.ownNil 125 4)
    (with_reducible apply Tri.noneM)
    rw [hR0]
    exact Zfn [blk pv 146 (viewL d U.1), DSK d U.1.S, own 125 4 (.slice none 0 0) 0 [], manyRd []] (hq := by exact ⟨none, 0, [], rfl, rfl, (fun v hv => by cases hv), rfl⟩)
end Go.Proofs.YtcglabmlhljkmaaGreat
end
section
/- tree: the nodes of a tree, in the order in which they are gone through, in plain terms. -/
namespace Go.Proofs.YtcglabmlhljkmaaGreat
open Go Go.RowKit Go.Gv
set_option linter.unusedVariables false
set_option linter.unusedSimpArgs false

/-- where the nodes below one stand, and they -/
def wkP (S : DS) : Nat → Int → List (Int × GOT)
  | 0, _ => []
  | h + 1, a => (a, rdN S a (decide (h = 0))) :: (rdN S a (decide (h = 0))).D.flatMap (wkP S h)
theorem wkP_E (S : DS) : ∀ (h : Nat) (a : Int), (wkP S h a).flatMap (fun p => p.2.E) = wkE S h a
  | 0, _ => rfl
  | h + 1, a => by
    rw [wkP, wkE, List.flatMap_cons, List.flatMap_assoc]
    congr 1
    exact flat_congr (fun k _ => wkP_E S h k)
theorem wkg_at {α : Type} {E : Int → List α} : ∀ (D : List Int) (j k : Nat) (d : Int), D[j]? = some d → k < (E d).length → (D.flatMap E)[((D.take j).flatMap E).length + k]? = (E d)[k]?
  | [], _, _, _, h, _ => by simp at h
  | x :: D, 0, k, d, h, hk => by
    simp at h; subst h
    simp only [List.take_zero, List.flatMap_nil, List.length_nil, Nat.zero_add, List.flatMap_cons]
    rw [List.getElem?_append_left hk]
  | x :: D, j + 1, k, d, h, hk => by
    have ih := wkg_at (E := E) D j k d (by simpa using h) hk
    simp only [List.take_succ_cons, List.flatMap_cons, List.length_append]
    rw [List.getElem?_append_right (by omega), show (E x).length + ((D.take j).flatMap E).length + k - (E x).length = ((D.take j).flatMap E).length + k by omega, ih]
theorem wkg_take {α : Type} {E : Int → List α} {D : List Int} {j : Nat} {d : Int} (h : D[j]? = some d) : ((D.take (j + 1)).flatMap E).length = ((D.take j).flatMap E).length + (E d).length := by
  rw [List.take_add_one, h]; simp
end Go.Proofs.YtcglabmlhljkmaaGreat
end
section
/- tree: each, All: the walk. -/
namespace Go.Proofs.YtcglabmlhljkmaaGreat
open Go Go.RowKit Go.Gv
set_option linter.unusedVariables false
set_option linter.unusedSimpArgs false

/-- what goes through the nodes below one of that height -/
def eachT (pv d : Nat) (v : VS) (h : Nat) (a : Int) : Prop := ∀ (gf : FuncId) [TFn Tryz.prog gf] (lb : List Value) (I : Nat → Atom),
    (∀ (k : Nat) (q : Int × GOT), (wkP v.S h a)[k]? = some q → ∀ (A : Option Addr) (c : Nat) (B : Option Addr) (b : Nat) (C : Option Addr) (e : Nat),
      Gv.Spec Tryz.prog gf ([.int .i64 q.1, ndW q.2.leaf (.slice A q.2.E.length c) (.slice B q.2.K.length b) (.slice C q.2.D.length e)] ++ lb).toArray [I k, own 40 8 (.slice A q.2.E.length c) q.2.E.length (EL q.2.E)] (fun _ H' => H' = [I (k + 1), own 40 8 (.slice A q.2.E.length c) q.2.E.length (EL q.2.E)])) →
    Gv.Spec Tryz.prog 62 #[.pointer (some ⟨pv, 0, none⟩), .int .i64 a, .int .i64 (h : Int), .func (.func gf) #[] lb.toArray]
      [I 0, blk pv 146 (viewL d v), DSK d v.S] (fun r H' => r = .int .i64 0 ∧ H' = [I (wkP v.S h a).length, blk pv 146 (viewL d v), DSK d v.S])
set_option maxHeartbeats 16000000 in
theorem tree_each_step (pv d : Nat) (v : VS) (hv : v.ok) (hl : v.S.W.length ≤ 1000000) (h : Nat) (a : Int) (hg : wkG v.S (h + 1) a) (hh : h ≤ 1000)
    (ih : ∀ k ∈ (rdN v.S a (decide (h = 0))).D, eachT pv d v h k) : eachT pv d v (h + 1) a := by
  intro gf _ lb I hI
  refine Gv.Spec.of (fun w h0 hw => ?_)
  refine Calls.enter Tryz.func62 rfl rfl rfl hw ?_
  simp only [argSlots]
  refine Wap ?_
  obtain ⟨ha, he, hEl, hDl, _⟩ := hg
  have hP : wkP v.S (h + 1) a = (a, rdN v.S a (decide (h = 0))) :: (rdN v.S a (decide (h = 0))).D.flatMap (wkP v.S h) := rfl
  rw [hP] at hI ⊢
  refine Ws ?_
  refine Zz 18 (decide (h = 0)) ?_ (hi := by exact decide_eq_decide.2 (by omega))
  refine Zcs (view_Node pv d v a (decide (h = 0)) hv hl ha) ?_
  rintro r1 H1 ⟨A, c, B, b, C, e, rfl, rfl⟩
  refine Wap ?_
  have hI0 := hI 0 (a, rdN v.S a (decide (h = 0))) rfl A c B b C e
  generalize rdN v.S a (decide (h = 0)) = G at *
  refine Ws ?_
  refine Zal fun b9 => ?_
  refine Ws ?_
  refine ZSa (ys := ndLL G.leaf (.slice A G.E.length c) (.slice B G.K.length b) (.slice C G.D.length e)) ?_ (h1 := by exact ndLL_one G.leaf A B C _ c _ b _ e)
  refine Ws ?_
  refine Zz 23 false ?_ (hi := by rw [he]; rfl)
  refine Ws ?_
  refine Zla (cs := ndLL G.leaf (.slice A G.E.length c) (.slice B G.K.length b) (.slice C G.D.length e)) ?_ (hl := by rfl)
  refine Ws ?_
  refine Zcf hI0 ?_
  rintro r2 H2 rfl
  refine Wap ?_
  refine Ws ?_
  have hz : I (0 + 1) = I (1 + ((G.D.take 0).flatMap (wkP v.S h)).length) := rfl
  rw [hz]
  (refine Wl (α := { j : Nat // j ≤ G.D.length }) (fun x => G.D.length - x.1) (fun x => [(0, .pointer (some ⟨pv, 0, none⟩)), (2, .int .i64 ((h + 1 : Nat) : Int)), (3, .func (.func gf) #[] lb.toArray), (30, .slice C G.D.length e), (31, .int .i64 (G.D.length : Int)), (32, .int .i64 (x.1 : Int))]) (fun x => [I (1 + ((G.D.take x.1).flatMap (wkP v.S h)).length), blk pv 146 (viewL d v), DSK d v.S, own 3 1 (.slice C G.D.length e) G.D.length (NL G.D), Ex h0]) ⟨0, Nat.zero_le _⟩ ?_; rintro ⟨j, hj⟩ mx hmx; (try dsimp only at hmx ⊢))
  refine Ws ?_
  (refine Wcd ?_ ?_ <;> intro hc)
  · have hjl : j < G.D.length := by omega
    have hjl' : j + 1 ≤ G.D.length := hjl
    obtain ⟨kd, hkd⟩ : ∃ kd, G.D[j]? = some kd := ⟨G.D[j]'hjl, List.getElem?_eq_getElem hjl⟩
    have hmem : kd ∈ G.D := List.mem_of_getElem? hkd
    have hNj : (NL G.D)[j]? = some (.int .i64 kd) := by rw [nl_get, hkd]; rfl
    have hoff := wkg_take (E := wkP v.S h) hkd
    have hcall := ih kd hmem gf lb (fun k => I (1 + ((G.D.take j).flatMap (wkP v.S h)).length + k)) (fun k q hq => by
      have hlt : k < (wkP v.S h kd).length := (List.getElem?_eq_some_iff.1 hq).1
      have h1 := wkg_at (E := wkP v.S h) G.D j k kd hkd hlt
      have h2 := hI (1 + ((G.D.take j).flatMap (wkP v.S h)).length + k) q (by
        rw [show 1 + ((G.D.take j).flatMap (wkP v.S h)).length + k = ((G.D.take j).flatMap (wkP v.S h)).length + k + 1 by omega, List.getElem?_cons_succ, h1]; exact hq)
      exact h2)
    have e1 : 1 + ((G.D.take j).flatMap (wkP v.S h)).length + (wkP v.S h kd).length = 1 + ((G.D.take (j + 1)).flatMap (wkP v.S h)).length := by omega
    rw [e1] at hcall
    refine Ws ?_
    refine Zix (j := j) ?_ (hj := by rfl) (hlt := by exact hjl)
    refine Ws ?_
    refine Zlo (j := j * 1) ?_ (hv := by exact (by rw [Nat.mul_one]; exact hNj))
    refine Ws ?_
    refine Zi 39 (h : Int) ?_ (hi := by omega)
    refine Ws ?_
    refine Zd hcall ?_
    refine Ws ?_
    refine Zz 43 false ?_
    refine Ws ?_
    refine Zi 32 ((j + 1 : Nat) : Int) ?_ (hi := by omega)
    exact Zag ⟨j + 1, hjl'⟩
  · have hjl : j = G.D.length := by omega
    have e2 : I (1 + ((G.D.take j).flatMap (wkP v.S h)).length) = I (((a, G) :: G.D.flatMap (wkP v.S h)).length) := by
      rw [hjl, List.take_length, List.length_cons, Nat.add_comm]
    rw [e2]
    refine Ws ?_
    exact Zfn [I (((a, G) :: G.D.flatMap (wkP v.S h)).length), blk pv 146 (viewL d v), DSK d v.S] (hq := by exact ⟨rfl, rfl⟩)
theorem tree_each (pv d : Nat) (v : VS) (hv : v.ok) (hl : v.S.W.length ≤ 1000000) : ∀ (h : Nat) (a : Int), wkG v.S h a → h ≤ 1000 → eachT pv d v h a
  | 0, _, hg, _ => hg.elim
  | h + 1, a, hg, hh => tree_each_step pv d v hv hl h a hg (by omega) (fun k hk => tree_each pv d v hv hl h k (hg.2.2.2.2 k hk) (by omega))
end Go.Proofs.YtcglabmlhljkmaaGreat
end
section
/- tree: All: the walk. -/
namespace Go.Gv
open Go Go.RowKit
set_option linter.unusedVariables false
theorem spec_exA {α β : Type} {P : Program} {f : FuncId} {args : Array Value} {A : α → List Atom} {B : β → List Atom} {Pre Post : List Atom}
    (h : ∀ x, Spec P f args (A x ++ Pre) (fun _ H' => ∃ y, H' = B y ++ Post)) : Spec P f args (exA (fun x => star (A x)) :: Pre) (fun _ H' => H' = exA (fun y => star (B y)) :: Post) := fun w0 w H hw => by
  obtain ⟨x, h1⟩ := St.exA hw
  have h2 : St w0 w ((A x ++ Pre) ++ H) := by rw [List.append_assoc]; exact St.unstar h1
  refine (h x w0 w H h2).mono ?_
  intro e w' he
  cases e with
  | returned v =>
    obtain ⟨H', ⟨y, rfl⟩, h3⟩ := he
    refine ⟨_, rfl, ?_⟩
    rw [List.append_assoc] at h3
    exact St.toExA (A := fun y => star (B y)) y (St.star h3)
  | panicked c => exact he
  | outgrown => exact he
theorem Tri.toExA {α : Type} {P : Program} {w0 : World} {G : Act → World → Prop} {n : NT} {L : Slots} {H H' : List Atom} {A : α → List Atom} (x : α) (p : Pulls H (A x) H') (h : Tri w0 G n L (Gv.exA (fun y => Gv.star (A y)) :: H')) : Tri w0 G n L H :=
  Tri.conv (fun w hw => St.toExA (A := fun y => Gv.star (A y)) x (St.star ⟨(hw.pulls p).1, (hw.pulls p).2⟩)) h
end Go.Gv
namespace Go.Proofs.YtcglabmlhljkmaaGreat
open Go Go.RowKit Go.Gv
set_option linter.unusedVariables false
set_option linter.unusedSimpArgs false

set_option maxHeartbeats 8000000 in
theorem tree_all1 (a : Int) (lf : Bool) (kv dv : Value) (A : Option Addr) (c : Nat) (E o : List ENT) (b7 : Nat) (A' : Option Addr) (c' : Nat) (hb : o.length + E.length ≤ 1000000) :
    Gv.Spec Tryz.prog 63 #[.int .i64 a, ndW lf (.slice A E.length c) kv dv, .pointer (some ⟨b7, 0, none⟩)]
      ([blk b7 29 [.slice A' o.length c'], own 40 8 (.slice A' o.length c') o.length (EL o)] ++ [own 40 8 (.slice A E.length c) E.length (EL E)])
      (fun _ H' => ∃ z : Option Addr × Nat, H' = [blk b7 29 [.slice z.1 (o ++ E).length z.2], own 40 8 (.slice z.1 (o ++ E).length z.2) (o ++ E).length (EL (o ++ E))] ++ [own 40 8 (.slice A E.length c) E.length (EL E)]) := by
  refine Gv.Spec.of (fun w h0 hw => ?_)
  refine Calls.enter Tryz.func63 rfl rfl rfl hw ?_
  simp only [argSlots]
  refine Wap ?_
  refine Ws ?_
  (refine Wbx ?_; intro b4)
  refine Ws ?_
  refine Zap (m2 := E.length) (news := EL E) ?_ (hr := by exact rdw_own (v := .slice A E.length c) Wp) (hl := by exact EL_length E) (h1 := by exact EL_ones E)
  intro vr
  (refine Tri.shape (e := 40) (size := 8) (v := vr) Wp ?_; rintro ⟨A2, c2, rfl⟩)
  refine Ws ?_
  refine ZS ?_ (hi := by exact (by decide : 0 < 1))
  have hl' : (o ++ E).length = o.length + E.length := List.length_append
  refine Zat (own 40 8 (.slice A2 (o.length + E.length) c2) _ _) (own 40 8 (.slice A2 (o ++ E).length c2) (o ++ E).length (EL (o ++ E))) ?_ (e := by rw [EL_app, hl'])
  refine Zat (blk b7 _ _) (blk b7 29 [.slice A2 (o ++ E).length c2]) ?_ (e := by rw [hl']; rfl)
  refine Ws ?_
  (first | with_reducible apply Tri.fin | with_reducible apply Tri.finN)
  case hr => rfl
  case h => exact ResL.nil
  apply fin_R (Hn := [blk b7 29 [.slice A2 (o ++ E).length c2], own 40 8 (.slice A2 (o ++ E).length c2) (o ++ E).length (EL (o ++ E)), own 40 8 (.slice A E.length c) E.length (EL E)])
  case p => exact Wps
  exact ⟨(A2, c2), rfl⟩
/-- what All holds behind the k-th node -/
def allI (b7 : Nat) (P : List (Int × GOT)) (k : Nat) : Atom := Gv.exA (fun z : Option Addr × Nat => Gv.star [blk b7 29 [.slice z.1 ((P.take k).flatMap fun p => p.2.E).length z.2], own 40 8 (.slice z.1 ((P.take k).flatMap fun p => p.2.E).length z.2) ((P.take k).flatMap fun p => p.2.E).length (EL ((P.take k).flatMap fun p => p.2.E))])
section
variable {P : Program} {w0 : World} {n : NT} {L : Slots} {H H' : List Atom} {G : Act → World → Prop}
theorem to_allI {b7 : Nat} {Q : List (Int × GOT)} (p : Pulls H [blk b7 29 [.slice none 0 0], own 40 8 (.slice none 0 0) 0 []] H') (h : Tri w0 G n L (allI b7 Q 0 :: H')) : Tri w0 G n L H :=
  Tri.toExA (P := Tryz.prog) (A := fun z : Option Addr × Nat => [blk b7 29 [.slice z.1 ((Q.take 0).flatMap fun p => p.2.E).length z.2], own 40 8 (.slice z.1 ((Q.take 0).flatMap fun p => p.2.E).length z.2) ((Q.take 0).flatMap fun p => p.2.E).length (EL ((Q.take 0).flatMap fun p => p.2.E))]) (none, 0) p h
theorem of_allI {b7 k : Nat} {Q : List (Int × GOT)} {es : List ENT} (he : (Q.take k).flatMap (fun p => p.2.E) = es) (p : Pull H (allI b7 Q k) H') (h : ∀ A c, Tri w0 G n L ([blk b7 29 [.slice A es.length c], own 40 8 (.slice A es.length c) es.length (EL es)] ++ H')) : Tri w0 G n L H := by
  subst he
  exact Tri.exA p (fun z => Tri.unstar .head (h z.1 z.2))
end
theorem all_spec (b7 : Nat) (Q : List (Int × GOT)) (hb : (Q.flatMap fun p => p.2.E).length ≤ 1000000) (k : Nat) (q : Int × GOT) (hq : Q[k]? = some q) (A : Option Addr) (c : Nat) (B : Option Addr) (b : Nat) (C : Option Addr) (e : Nat) :
    Gv.Spec Tryz.prog 63 ([Value.int .i64 q.1, ndW q.2.leaf (.slice A q.2.E.length c) (.slice B q.2.K.length b) (.slice C q.2.D.length e)] ++ [Value.pointer (some ⟨b7, 0, none⟩)]).toArray [allI b7 Q k, own 40 8 (.slice A q.2.E.length c) q.2.E.length (EL q.2.E)] (fun _ H' => H' = [allI b7 Q (k + 1), own 40 8 (.slice A q.2.E.length c) q.2.E.length (EL q.2.E)]) := by
  have hs : (Q.take (k + 1)).flatMap (fun p => p.2.E) = (Q.take k).flatMap (fun p => p.2.E) ++ q.2.E := by rw [List.take_add_one, hq]; simp
  have hbb : ((Q.take k).flatMap fun p => p.2.E).length + q.2.E.length ≤ 1000000 := by
    have h1 : ((Q.take (k + 1)).flatMap fun p => p.2.E).length ≤ (Q.flatMap fun p => p.2.E).length := by
      conv => rhs; rw [← List.take_append_drop (k + 1) Q]
      rw [List.flatMap_append, List.length_append]; omega
    rw [hs, List.length_append] at h1; omega
  have := spec_exA (P := Tryz.prog) (f := 63) (A := fun z : Option Addr × Nat => [blk b7 29 [.slice z.1 ((Q.take k).flatMap fun p => p.2.E).length z.2], own 40 8 (.slice z.1 ((Q.take k).flatMap fun p => p.2.E).length z.2) ((Q.take k).flatMap fun p => p.2.E).length (EL ((Q.take k).flatMap fun p => p.2.E))])
    (B := fun z : Option Addr × Nat => [blk b7 29 [.slice z.1 ((Q.take k).flatMap (fun p => p.2.E) ++ q.2.E).length z.2], own 40 8 (.slice z.1 ((Q.take k).flatMap (fun p => p.2.E) ++ q.2.E).length z.2) ((Q.take k).flatMap (fun p => p.2.E) ++ q.2.E).length (EL ((Q.take k).flatMap (fun p => p.2.E) ++ q.2.E))])
    (fun z => tree_all1 q.1 q.2.leaf (.slice B q.2.K.length b) (.slice C q.2.D.length e) A c q.2.E ((Q.take k).flatMap fun p => p.2.E) b7 z.1 z.2 hbb)
  rw [← hs] at this
  exact this
set_option maxHeartbeats 8000000 in
theorem tree_All (pv d : Nat) (v : VS) (hv : v.ok) (hl : v.S.W.length ≤ 1000000) (h : Nat) (a : Int) (hh : h ≤ 5) (hg : h = 0 ∨ wkG v.S h a) (hlen : (wkE v.S h a).length ≤ 1000000) :
    Gv.Spec Tryz.prog 15 #[.pointer (some ⟨pv, 0, none⟩), rootV a (h : Int)] [blk pv 146 (viewL d v), DSK d v.S]
    (fun r H' => ∃ A c, r = .tuple #[.slice A (wkE v.S h a).length c, .int .i64 0] ∧ H' = [blk pv 146 (viewL d v), DSK d v.S, own 40 8 (.slice A (wkE v.S h a).length c) (wkE v.S h a).length (EL (wkE v.S h a))]) := by
  refine Gv.Spec.of (fun w h0 hw => ?_)
  refine Calls.enter Tryz.func15 rfl rfl rfl hw ?_
  simp only [argSlots]
  refine Wap ?_
  refine Ws ?_
  (refine Wbx ?_; intro b3)
  refine Ws ?_
  refine Zla (cs := rootL a (h : Int)) ?_ (hl := by rfl)
  refine Ws ?_
  refine Zcv (view_may pv a h hh) ?_
  refine Ws ?_
  refine Zz 14 false ?_
  refine Ws ?_
  rcases Nat.eq_zero_or_pos h with h00 | hpos
  · subst h00
    refine Zz 18 true ?_
    refine Ws ?_
    (with_reducible apply Tri.ownNil 40 8)
    exact Zfn [blk pv 146 (viewL d v), DSK d v.S, own 40 8 (.slice none 0 0) 0 []] (hq := by exact ⟨none, 0, rfl, rfl⟩)
  · have hg' : wkG v.S h a := by rcases hg with q | q; omega; exact q
    have hPE := wkP_E v.S h a
    have heach := tree_each pv d v hv hl h a hg' (by omega) 63
    generalize wkP v.S h a = P at hPE heach
    refine Zz 18 false ?_ (hi := by exact decide_eq_false (by omega))
    refine Ws ?_
    refine Zal fun b7 => ?_
    refine Ws ?_
    refine ZomakeFunc (vs := [.pointer (some ⟨b7, 0, none⟩)]) ?_ (hc := by exact ⟨rfl, trivial⟩)
    refine Ws ?_
    have hcall := heach [.pointer (some ⟨b7, 0, none⟩)] (allI b7 P) (all_spec b7 P (by rw [hPE]; exact hlen))
    (with_reducible apply Tri.ownNil 40 8)
    refine Zat (blk b7 _ _) (blk b7 29 [.slice none 0 0]) ?_
    refine to_allI (b7 := b7) (Q := P) Wps ?_
    refine Zd hcall ?_
    refine of_allI (he := show (P.take P.length).flatMap (fun p => p.2.E) = wkE v.S h a by rw [List.take_length]; exact hPE) Wp (fun A c => ?_)
    refine Wap ?_
    refine Ws ?_
    refine Zz 28 false ?_
    refine Ws ?_
    exact Zfn [blk pv 146 (viewL d v), DSK d v.S, own 40 8 (.slice A (wkE v.S h a).length c) (wkE v.S h a).length (EL (wkE v.S h a))] (hq := by exact ⟨A, c, rfl, rfl⟩)
end Go.Proofs.YtcglabmlhljkmaaGreat
end
section
/- tree: where an entry belongs among others; a root that is written: the walk. -/
namespace Go.Proofs.YtcglabmlhljkmaaGreat
open Go Go.RowKit Go.Gv
set_option linter.unusedVariables false
set_option linter.unusedSimpArgs false

theorem key_cells (e : ENT) : ((entL e).drop (0 + 0)).take 2 = keyL e.key := rfl
set_option maxHeartbeats 4000000 in
theorem tree_insert1 (x y : ENT) (b7 : Nat) :
    Gv.Spec Tryz.prog 117 #[entV y, .pointer (some ⟨b7, 0, none⟩)] [blk b7 40 (entL x)] (fun r H' => r = .bool (lessK x.key y.key) ∧ H' = [blk b7 40 (entL x)]) := by
  refine Gv.Spec.of (fun w h0 hw => ?_)
  refine Calls.enter Tryz.func117 rfl rfl rfl hw ?_
  simp only [argSlots]
  refine Wap ?_
  refine Ws ?_
  (refine Wbx ?_; intro b2)
  refine Ws ?_
  refine Zlg ?_ (hv := by exact key_cells x) (hl := by rfl)
  refine Ws ?_
  refine Zlg ?_ (hv := by exact key_cells y) (hl := by rfl)
  refine Ws ?_
  refine Zcv (node_Less x.key y.key) ?_
  refine Ws ?_
  exact Zfn [blk b7 40 (entL x)] (hq := by exact ⟨rfl, rfl⟩)
set_option maxHeartbeats 8000000 in
theorem slices_IndexFuncE (A : Option Addr) (c : Nat) (E : List ENT) (x : ENT) (b7 : Nat) (hb : E.length ≤ 1000000) :
    Gv.Spec Tryz.prog 116 #[.slice A E.length c, .func (.func 117) #[] #[.pointer (some ⟨b7, 0, none⟩)]] [blk b7 40 (entL x), own 40 8 (.slice A E.length c) E.length (EL E)]
    (fun r H' => r = .int .i64 (if idxE E x.key < E.length then (idxE E x.key : Int) else -1) ∧ H' = [blk b7 40 (entL x), own 40 8 (.slice A E.length c) E.length (EL E)]) := by
  refine Gv.Spec.of (fun w h0 hw => ?_)
  refine Calls.enter Tryz.func116 rfl rfl rfl hw ?_
  simp only [argSlots]
  refine Wap ?_
  refine Ws ?_
  (refine Wl (α := Σ' (i : Nat) (f : Nat), f + i = E.length + 1 ∧ i ≤ E.length ∧ idxGo E x.key f i = idxE E x.key) (fun z => E.length - z.1) (fun z => [(0, .slice A E.length c), (1, .func (.func 117) #[] #[.pointer (some ⟨b7, 0, none⟩)]), (7, .int .i64 (E.length : Int)), (8, .int .i64 (z.1 : Int))]) (fun z => [blk b7 40 (entL x), own 40 8 (.slice A E.length c) E.length (EL E), Ex h0]) ⟨0, E.length + 1, rfl, Nat.zero_le _, rfl⟩ ?_; rintro ⟨i, f, hf, hi, hg⟩ mx hmx; (try dsimp only at hmx ⊢))
  obtain ⟨g, rfl⟩ : ∃ g, f = g + 1 := ⟨f - 1, by omega⟩
  rw [idxGo] at hg
  refine Ws ?_
  (refine Wcd ?_ ?_ <;> intro hc)
  · have hil : i < E.length := by omega
    have hil' : i + 1 ≤ E.length := hil
    have hf' : g + (i + 1) = E.length + 1 := by omega
    rw [if_pos hil] at hg
    obtain ⟨y, hy⟩ : ∃ y, y = E.getD i ent0 := ⟨_, rfl⟩
    have hE8 : ((EL E).drop (i * 8)).take 8 = entL y := by rw [hy]; exact EL_eight E i hil
    rw [← hy] at hg
    have hcl : Gv.Spec Tryz.prog 117 ([entV y] ++ [Value.pointer (some ⟨b7, 0, none⟩)]).toArray _ _ := tree_insert1 x y b7
    refine Ws ?_
    refine Zix (j := i) ?_ (hj := by rfl) (hlt := by exact hil)
    refine Ws ?_
    refine Zlq (ys := entL y) ?_ (hv := by exact hE8) (hl := by rfl)
    refine Ws ?_
    refine Zcf hcl ?_
    rintro r3 H3 ⟨rfl, rfl⟩
    refine Wap ?_
    refine Ws ?_
    cases hq : lessK x.key y.key with
    | true =>
      rw [if_pos hq] at hg
      refine Ws ?_
      rw [← hg, if_pos hil]
      exact Zfn [blk b7 40 (entL x), own 40 8 (.slice A E.length c) E.length (EL E)] (hq := by exact ⟨rfl, rfl⟩)
    | false =>
      rw [if_neg (by rw [hq]; simp)] at hg
      refine Ws ?_
      refine Zi 8 ((i + 1 : Nat) : Int) ?_ (hi := by omega)
      exact Zag ⟨i + 1, g, hf', hil', hg⟩
  · have hil : ¬ i < E.length := by omega
    rw [if_neg hil] at hg
    refine Ws ?_
    rw [← hg, if_neg (Nat.lt_irrefl _)]
    exact Zfn [blk b7 40 (entL x), own 40 8 (.slice A E.length c) E.length (EL E)] (hq := by exact ⟨rfl, rfl⟩)
end Go.Proofs.YtcglabmlhljkmaaGreat
end
section
/- tree: an entry more, below: the walk. -/
namespace Go.Proofs.YtcglabmlhljkmaaGreat
open Go Go.RowKit Go.Gv
set_option linter.unusedVariables false
set_option linter.unusedSimpArgs false

/-- an entry more, below -/
def insertT (pv d : Nat) (v : VS) (h : Nat) (a : Int) (x : ENT) : Prop :=
  Gv.Spec Tryz.prog 71 #[.pointer (some ⟨pv, 0, none⟩), .int .i64 a, .int .i64 (h : Int), entV x] [blk pv 146 (viewL d v), DSK d v.S]
    (fun r H' => ∃ (AZ : Option Addr) (cz : Nat) (VZ : List (Value × Value × Value)), r = .tuple #[.slice AZ VZ.length cz, .int .i64 ((inN h v a x).2.2 : Int)] ∧ VZ.length = (inN h v a x).2.1.length ∧ shp VZ
      ∧ H' = [blk pv 146 (viewL d (inN h v a x).1), DSK d (inN h v a x).1.S, own 125 4 (.slice AZ VZ.length cz) VZ.length (NDL (decide (h = 1)) VZ), manyRd (RDS VZ (inN h v a x).2.1)])
set_option maxHeartbeats 8000000 in
theorem insert_leaf (pv d : Nat) (v : VS) (a : Int) (x : ENT) (hv : v.ok) (hx : entR x) (hG : inG 1 v a x) : insertT pv d v 1 a x := by
  refine Gv.Spec.of (fun w h0 hw => ?_)
  refine Calls.enter Tryz.func71 rfl rfl rfl hw ?_
  simp only [argSlots]
  refine Wap ?_
  rw [inG] at hG
  obtain ⟨⟨ha, hl, he, hlf, hok, hE, hD, hgi⟩, hidx, _⟩ := hG
  have hidx := hidx rfl
  have hin := inN_leaf (x := x) he hgi
  obtain ⟨R0, hR0⟩ : ∃ R, R = inN 1 v a x := ⟨_, rfl⟩
  rw [← hR0] at hin ⊢
  have hNd := view_Node pv d v a true hv (by omega) ha
  have hd1 : decide ((0 : Nat) = 0) = true := rfl
  rw [hd1] at he hlf hok hE hD
  obtain ⟨hK0, hD0⟩ := hok
  obtain ⟨N, hN⟩ : ∃ N, N = rdN v.S a true := ⟨_, rfl⟩
  rw [← hN] at hNd he hlf hE hD hidx hin hK0 hD0
  have hK0 : N.K = [] := hK0
  have hD0 : N.D = [] := hD0
  have hgS := giN_S v a
  have hdk : DSK d v.S = DSK d (giN v a).1.S := by rw [hgS]
  have hgv := view_give pv d v a hv
  have hixr : (if idxE N.E x.key < N.E.length then (idxE N.E x.key : Int) else -1) = -1 := by rw [hidx, if_neg (by omega)]
  rw [hidx, List.take_length, List.drop_length] at hin
  refine Ws ?_
  (refine Wbx ?_; intro b7)
  refine Ws ?_
  refine Zz 20 true ?_
  refine Zcs hNd ?_
  rintro r1 H1 ⟨A, c, B, e, C, f, rfl, rfl⟩
  refine Wap ?_
  refine Ws ?_
  refine Zal fun b10 => ?_
  refine Ws ?_
  refine ZSa (ys := ndLL N.leaf (.slice A N.E.length c) (.slice B N.K.length e) (.slice C N.D.length f)) ?_ (h1 := by exact ndLL_one N.leaf A B C _ c _ e _ f)
  refine Ws ?_
  refine Zz 25 false ?_ (hi := by rw [he]; rfl)
  refine Ws ?_
  refine Zd hgv ?_
  refine Ws ?_
  refine Zz 31 false ?_ (hi := by rw [hgi]; rfl)
  refine Ws ?_
  refine Zz 34 true ?_
  refine Ws ?_
  refine ZomakeFunc (vs := [.pointer (some ⟨b7, 0, none⟩)]) ?_ (hc := by exact ⟨rfl, trivial⟩)
  refine Ws ?_
  have hix := slices_IndexFuncE A c N.E x b7 (by omega)
  rw [hixr] at hix
  refine Zd hix ?_
  refine Ws ?_
  refine Zz 40 true ?_
  refine Ws ?_
  refine Zla (cs := entL x) ?_ (hl := by rfl)
  refine Ws ?_
  (refine Zli (ys := entL x) ?_; intro v48)
  have hins := slices_InsEndEntry A N.E.length c v48 1 (EL N.E) (entL x) (by omega) (by decide) (entL_one x) rfl
  refine Ws ?_
  refine Zcs hins ?_
  rintro r4 H4 ⟨A4, a4, rfl, rfl⟩
  refine Wap ?_
  refine Ws ?_
  refine ZS ?_ (hi := by exact (by decide : 1 < 4))
  refine Zat (blk b10 _ _) (blk b10 125 (ndLL true (.slice A4 (N.E.length + 1) a4) (.slice B N.K.length e) (.slice C N.D.length f))) ?_ (e := by rw [hlf]; rfl)
  obtain ⟨Z, hZ⟩ : ∃ Z : ND3, Z = ⟨N.E ++ x :: [], N.K, N.D⟩ := ⟨_, rfl⟩
  rw [← hZ] at hin
  have hZE : Z.E.length = N.E.length + 1 := by rw [hZ]; simp
  have hZL : EL N.E ++ entL x = EL Z.E := by
    rw [hZ]
    show _ = EL (N.E ++ [x])
    rw [EL_app]; simp [EL]
  have hZK : Z.K = N.K := by rw [hZ]
  have hZD : Z.D = N.D := by rw [hZ]
  have hZo : okN true Z := ⟨by rw [hZK]; exact hK0, by rw [hZD]; exact hD0⟩
  have hZs : szN true Z = N.E.length + 1 := hZE
  have hsp := node_Split true (szN true Z) Z (.slice A4 (N.E.length + 1) a4) (.slice B N.K.length e) (.slice C N.D.length f) hZo (Nat.le_refl _) (by omega)
  have hsq : splN true (szN true Z + 1) Z = splitN true Z := rfl
  refine Zat (own 40 8 (.slice A4 (N.E.length + 1) a4) _ _) (own 40 8 (.slice A4 (N.E.length + 1) a4) (N.E.length + 1) (EL Z.E)) ?_ (e := by rw [hZL])
  refine Ws ?_
  refine Zla (cs := ndLL true (.slice A4 (N.E.length + 1) a4) (.slice B N.K.length e) (.slice C N.D.length f)) ?_ (hl := by rfl)
  refine Ws ?_
  refine Zcr hsp ?_ (hpre := by exact fun w' hw' => ⟨by rw [hZE]; exact rdw_own (v := .slice A4 (N.E.length + 1) a4) Wp w' hw', by rw [hZK]; exact rdw_own (v := .slice B N.K.length e) Wp w' hw', by rw [hZD]; exact rdw_own (v := .slice C N.D.length f) Wp w' hw'⟩)
  rintro r5 H5 ⟨VZ, hVZ, hWZ, rfl⟩
  refine Wap ?_
  (refine Tri.shape (e := 125) (size := 4) (v := r5) Wp ?_; rintro ⟨AZ, cz, rfl⟩)
  rw [hsq] at hVZ
  rw [hsq]
  refine Ws ?_
  rw [hin, hdk]
  exact Zfn [blk pv 146 (viewL d (giN v a).1), DSK d (giN v a).1.S, own 125 4 (.slice AZ VZ.length cz) VZ.length (NDL true VZ), manyRd (RDS VZ (splitN true Z))] (hq := by exact ⟨AZ, cz, VZ, rfl, hVZ, hWZ, rfl⟩)
set_option maxHeartbeats 8000000 in
theorem insert_step (pv d : Nat) (v : VS) (h : Nat) (a : Int) (x : ENT) (hv : v.ok) (hx : entR x) (hh : h ≤ 1000) (hG : inG (h + 2) v a x)
    (ih : insertT pv d (giN v a).1 (h + 1) ((rdN v.S a false).D.getD (childN (rdN v.S a false).K x.key) 0) x) : insertT pv d v (h + 2) a x := by
  refine Gv.Spec.of (fun w h0 hw => ?_)
  refine Calls.enter Tryz.func71 rfl rfl rfl hw ?_
  simp only [argSlots]
  refine Wap ?_
  rw [inG] at hG
  obtain ⟨⟨ha, hl, he, hlf, hok, hE, hD, hgi⟩, _, hG'⟩ := hG
  have hG' := hG' (Nat.succ_ne_zero h)
  have hd1 : decide (h + 1 = 0) = false := rfl
  rw [hd1] at he hlf hok hE hD
  have hin := inN_inner (h := h) (x := x) he hgi
  obtain ⟨R0, hR0⟩ : ∃ R, R = inN (h + 2) v a x := ⟨_, rfl⟩
  rw [← hR0] at hin ⊢
  have hNd := view_Node pv d v a false hv (by omega) ha
  obtain ⟨hE0, hKD⟩ := hok
  obtain ⟨N, hN⟩ : ∃ N, N = rdN v.S a false := ⟨_, rfl⟩
  rw [← hN] at hNd he hlf hE hD hin hE0 hKD ih hG'
  have hE0 : N.E = [] := hE0
  have hKD : N.K.length = N.D.length := hKD
  obtain ⟨hch, _, hVok, hV⟩ := hG'
  obtain ⟨q, hq⟩ : ∃ q, q = childN N.K x.key := ⟨_, rfl⟩
  rw [← hq] at hch hVok hV hin ih
  obtain ⟨kd, hkd⟩ : ∃ kd, kd = N.D.getD q 0 := ⟨_, rfl⟩
  rw [← hkd] at hVok hV hin ih
  have hND : (NL N.D)[q]? = some (.int .i64 kd) := by
    rw [nl_get, hkd, List.getD_eq_getElem?_getD, List.getElem?_eq_getElem (show q < N.D.length by omega)]; rfl
  have hgS := giN_S v a
  have hdk : DSK d v.S = DSK d (giN v a).1.S := by rw [hgS]
  have hgv := view_give pv d v a hv
  rw [insertT] at ih
  obtain ⟨V, hVd⟩ : ∃ V, V = inN (h + 1) (giN v a).1 kd x := ⟨_, rfl⟩
  rw [← hVd] at ih hVok hV hin
  refine Ws ?_
  (refine Wbx ?_; intro b7)
  refine Ws ?_
  refine Zz 20 false ?_ (hi := by exact decide_eq_false (by omega))
  refine Zcs hNd ?_
  rintro r1 H1 ⟨A, c, B, e, C, f, rfl, rfl⟩
  refine Wap ?_
  refine Ws ?_
  refine Zal fun b10 => ?_
  refine Ws ?_
  refine ZSa (ys := ndLL N.leaf (.slice A N.E.length c) (.slice B N.K.length e) (.slice C N.D.length f)) ?_ (h1 := by exact ndLL_one N.leaf A B C _ c _ e _ f)
  refine Ws ?_
  refine Zz 25 false ?_ (hi := by rw [he]; rfl)
  refine Ws ?_
  refine Zd hgv ?_
  refine Ws ?_
  refine Zz 31 false ?_ (hi := by rw [hgi]; rfl)
  refine Ws ?_
  refine Zz 34 false ?_ (hi := by exact decide_eq_false (by omega))
  refine Ws ?_
  refine Zla (cs := ndLL N.leaf (.slice A N.E.length c) (.slice B N.K.length e) (.slice C N.D.length f)) ?_ (hl := by rfl)
  refine Ws ?_
  refine Zlg ?_ (hv := by exact key_cells x) (hl := by rfl)
  refine Ws ?_
  have hcd := tree_child N.leaf (.slice A N.E.length c) (.slice B N.K.length e) (.slice C N.D.length f) N.K x.key (by omega)
  rw [← hq] at hcd
  refine Zcv hcd ?_ (hpre := by exact rdw_own (v := .slice B N.K.length e) Wp)
  have hz1 : ((h + 1 : Nat) : Int) = ((h + 2 : Nat) : Int) - 1 := by omega
  rw [hz1] at ih
  have hql : q < N.D.length := by omega
  have hND' : (NL N.D)[q * 1]? = some (.int .i64 kd) := by rw [Nat.mul_one]; exact hND
  rw [hdk]
  refine Ws ?_
  refine Wm [blk b10 125 (ndLL N.leaf (.slice A N.E.length c) (.slice B N.K.length e) (.slice C N.D.length f)), own 3 1 (.slice C N.D.length f) N.D.length (NL N.D), blk b7 40 (entL x)] ?_
  refine Wq [0, 1, 2, 3] ?_
  refine Zm 4 (h := fun _ _ x => by exact Zix (j := q) x (hj := by rfl) (hlt := by exact hql)) (k := ?_)
  refine Zm 5 (h := fun _ _ x => by exact Zlo (j := q * 1) x (hv := by exact hND')) (k := ?_)
  refine Wq [6, 7] ?_
  ((first | ((with_reducible apply TriM.q 8); (case ho => rfl); (case hg => rfl)) | ((with_reducible apply TriM.qYes 8); (case ho => rfl); (case hg => rfl); (case hyl => rfl); (case hb => with_reducible rfl))); (case hB => kernel_rfl); (case hd => rfl); (case hn => rfl); (case h => (intro F K hK; (try dsimp only [List.cons_append, List.nil_append]); ((with_reducible apply o_loadAll (cs := entL x)); (case hx => rfl); (case p => exact (by (first | ((repeat (first | with_reducible exact Pull.head | with_reducible apply Pull.tail)); done) | (repeat (first | exact Pull.head | apply Pull.tail))))); (case hl => rfl); (case hn => rfl)); exact hK)))
  refine ZA 9 ?_
  ((with_reducible apply o_callS (hs := ih)); (case hargs => (repeat (first | exact evs.nil | (apply evs.cons; (case a => rfl))))); (case p => (repeat (first | exact Pulls.nil | (apply Pulls.cons; (case a => (first | ((repeat (first | with_reducible exact Gv.Pull.head | with_reducible apply Gv.Pull.tail)); done) | (repeat (first | exact Gv.Pull.head | apply Gv.Pull.tail)))))))); (case hn => rfl))
  rintro r3 H3 ⟨AV, cv, VV, rfl, hVl, hVW, rfl⟩
  refine Wap ?_
  refine Zw ?_
  refine Wq [10, 11, 12, 13, 14] ?_
  refine ZE ?_
  refine Ws ?_
  by_cases hz : V.2.2 = 0
  · rw [if_pos hz] at hin
    obtain ⟨hV1, hV2, hV3, hV4⟩ := hV hz
    have hrp := view_replaced pv d V.1 (decide (h + 1 = 1)) A c B e C f ⟨N.E, N.K, N.D⟩ q 1 AV cv VV V.2.1 hVok hV3 hV2 hVl hVW hV4 ⟨hE0, hKD⟩ hD hql hch (by omega) hV1
    rw [← hin] at hrp
    have hc1 : ((1 : Nat) : Int) = 1 := rfl
    rw [hc1] at hrp
    dsimp only at hrp
    refine Zz 71 false ?_ (hi := by rw [hz]; rfl)
    refine Zat (blk b10 _ _) (blk b10 125 (ndLL false (.slice A N.E.length c) (.slice B N.K.length e) (.slice C N.D.length f))) ?_ (e := by rw [hlf])
    refine Ws ?_
    refine Zla (cs := ndLL false (.slice A N.E.length c) (.slice B N.K.length e) (.slice C N.D.length f)) ?_ (hl := by rfl)
    refine Ws ?_
    refine Zcs hrp ?_
    rintro r4 H4 ⟨AZ, cz, VZ, rfl, hZl, hZW, rfl⟩
    refine Wap ?_
    refine Ws ?_
    exact Zfn [blk pv 146 (viewL d R0.1), DSK d R0.1.S, own 125 4 (.slice AZ VZ.length cz) VZ.length (NDL false VZ), manyRd (RDS VZ R0.2.1)] (hq := by exact ⟨AZ, cz, VZ, rfl, hZl, hZW, rfl⟩)
  · rw [if_neg hz] at hin
    refine Zz 71 true ?_ (hi := by rw [decide_eq_true]; omega)
    refine Ws ?_
    (with_reducible apply Tri.ownNil 125 4)
    (with_reducible apply Tri.noneM)
    rw [hin]
    exact Zfn [blk pv 146 (viewL d V.1), DSK d V.1.S, own 125 4 (.slice none 0 0) 0 [], manyRd []] (hq := by exact ⟨none, 0, [], rfl, rfl, (fun v hv => by cases hv), rfl⟩)
/-- an entry more, below -/
theorem view_insert (pv d : Nat) (x : ENT) (hx : entR x) : ∀ (h : Nat) (v : VS) (a : Int), v.ok → h ≤ 1000 → inG h v a x → insertT pv d v h a x
  | 0, v, a, _, _, hG => hG.elim
  | 1, v, a, hv, _, hG => insert_leaf pv d v a x hv hx hG
  | h + 2, v, a, hv, hh, hG => insert_step pv d v h a x hv hx (by omega) hG (view_insert pv d x hx (h + 1) _ _ (giN_ok hv a) (by omega) (hG.2.2 (Nat.succ_ne_zero h)).2.1)
end Go.Proofs.YtcglabmlhljkmaaGreat
end
section
/- tree: meets; a view's Load: the walk. -/
namespace Go.Proofs.YtcglabmlhljkmaaGreat
open Go Go.RowKit Go.Gv
set_option linter.unusedVariables false
set_option linter.unusedSimpArgs false

set_option maxHeartbeats 4000000 in
theorem tree_meets (a b : ENT) : SpecR Tryz.prog 57 #[entV a, entV b] (fun _ => True) (fun r H' => r = .bool (meetsE a b) ∧ H' = []) := by
  refine SpecR.of (fun w _ => ?_)
  refine Calls.enter Tryz.func57 rfl rfl rfl (St.rebase w) ?_
  simp only [argSlots]
  have hm : meetsE a b = (decide (a.key.1 = b.key.1) && (decide (a.key.2 ≤ b.fin) && decide (b.key.2 ≤ a.fin))) := rfl
  refine Ws ?_
  (refine Wbx ?_; intro b2)
  refine Ws ?_
  (refine Wbx ?_; intro b3)
  refine Ws ?_
  by_cases h1 : a.key.1 = b.key.1
  · rw [decide_eq_true h1, Bool.true_and] at hm
    refine Zz 12 true ?_ (hi := by exact decide_eq_true h1)
    refine Ws ?_
    by_cases h2 : a.key.2 ≤ b.fin
    · rw [decide_eq_true h2, Bool.true_and] at hm
      refine Zz 20 true ?_ (hi := by exact decide_eq_true h2)
      refine Ws ?_
      exact Zfr (hq := by simp only [tupled]; (rw [hm]))
    · rw [decide_eq_false h2, Bool.false_and] at hm
      refine Zz 20 false ?_ (hi := by exact decide_eq_false h2)
      refine Ws ?_
      exact Zfr (hq := by simp only [tupled]; (rw [hm]))
  · rw [decide_eq_false h1, Bool.false_and] at hm
    refine Zz 12 false ?_ (hi := by exact decide_eq_false h1)
    refine Ws ?_
    exact Zfr (hq := by simp only [tupled]; (rw [hm]))
theorem rd_noneT (w : World) : RdW w (.slice none 0 0) 0 [] := ⟨none, 0, rfl, ⟨by simp, by decide⟩, fun j u h => by simp at h⟩
end Go.Proofs.YtcglabmlhljkmaaGreat
end
section
/- tree: an entry more: the walk. -/
namespace Go.Proofs.YtcglabmlhljkmaaGreat
open Go Go.RowKit Go.Gv
set_option linter.unusedVariables false
set_option linter.unusedSimpArgs false

theorem keyS_eq (a b : KEY) : (decide (a = b) = true ↔ keyL a = keyL b) := by
  rw [decide_eq_true_iff]
  constructor
  · rintro rfl; rfl
  · intro h
    simp only [keyL, List.cons.injEq, Value.int.injEq, true_and, and_true] at h
    exact Prod.ext h.1 h.2
theorem keyS_alk (a : KEY) : Alk [.int .i64 0, .int .i64 0] (keyL a) := ⟨rfl, rfl, trivial⟩
set_option maxRecDepth 4000 in
set_option maxHeartbeats 16000000 in
theorem view_Insert (pv d : Nat) (v : VS) (a : Int) (h : Nat) (x : ENT) (hv : v.ok) (hG : iG v a h x) :
    Gv.Spec Tryz.prog 24 #[.pointer (some ⟨pv, 0, none⟩), rootV a (h : Int), entV x] [blk pv 146 (viewL d v), DSK d v.S]
    (fun r H' => r = .tuple #[.agg #[.int .i64 (iN v a h x).2.1.1, .int .i64 ((iN v a h x).2.1.2 : Int)], .int .i64 ((iN v a h x).2.2 : Int)]
      ∧ H' = [blk pv 146 (viewL d (iN v a h x).1), DSK d (iN v a h x).1.S]) := by
  refine Gv.Spec.of (fun w h0 hw => ?_)
  refine Calls.enter Tryz.func24 rfl rfl rfl hw ?_
  simp only [argSlots]
  refine Wap ?_
  obtain ⟨⟨hh, hg, hEl, hWl, hxo, hxR⟩, hG2⟩ := hG
  obtain ⟨R0, hR0⟩ : ∃ R, R = iN v a h x := ⟨_, rfl⟩
  rw [← hR0]
  rw [iN] at hR0
  have hall := tree_All pv d v hv (by omega) h a hh hg (by omega)
  obtain ⟨E, hE⟩ : ∃ E, E = wkE v.S h a := ⟨_, rfl⟩
  rw [← hE] at hR0 hall hEl hG2
  refine Ws ?_
  (refine Wbx ?_; intro b4)
  refine Ws ?_
  (refine Wbx ?_; intro b5)
  refine Ws ?_
  refine Zal fun b6 => ?_
  refine Ws ?_
  refine Zla (cs := rootL a (h : Int)) ?_ (hl := by rfl)
  refine Ws ?_
  refine Zcv (view_may pv a h hh) ?_
  refine Ws ?_
  refine Zz 20 false ?_
  refine Ws ?_
  refine Zla (cs := entL x) ?_ (hl := by rfl)
  refine Ws ?_
  (refine Zli (ys := entL x) ?_; intro vl)
  (refine Tri.shape (e := 40) (size := 8) (v := vl) Wp ?_; rintro ⟨Av, cv, rfl⟩)
  refine Ws ?_
  refine Zbu (ys := ndLL true (.slice Av 1 cv) (.slice none 0 0) (.slice none 0 0)) ?_
  refine Ws ?_
  refine Zat (own 40 8 (.slice Av 1 cv) _ _) (own 40 8 (.slice Av 1 cv) [x].length (EL [x])) ?_
  refine Zcv (node_Right true (.slice Av 1 cv) (.slice none 0 0) (.slice none 0 0) [x] [] []) ?_ (hpre := by exact fun w' hw' => ⟨rdw_own (v := .slice Av 1 cv) Wp w' hw', rd_noneT _, rd_noneT _⟩)
  refine Zz 26 true ?_ (hi := by exact one_right hxo)
  refine Ws ?_
  refine Zz 27 false ?_
  refine Ws ?_
  refine Zla (cs := rootL a (h : Int)) ?_ (hl := by rfl)
  refine Ws ?_
  refine Zcs hall ?_
  rintro r1 H1 ⟨A, c, rfl, rfl⟩
  refine Wap ?_
  refine Ws ?_
  refine Zz 36 false ?_
  refine Ws ?_
  have hEl8 : (EL E).length = E.length * 8 := EL_lens E rfl
  have hk0 : (E.take 0).any (fun y => decide (y.key = x.key)) = false := by rw [List.take_zero]; rfl
  have hm0 : (E.take 0).any (fun y => meetsE x y) = false := by rw [List.take_zero]; rfl
  (refine Wl (α := Σ' (i : Nat), i ≤ E.length ∧ (E.take i).any (fun y => decide (y.key = x.key)) = false) (fun z => E.length - z.1) (fun z => [(0, .pointer (some ⟨pv, 0, none⟩)), (4, .pointer (some ⟨b4, 0, none⟩)), (5, .pointer (some ⟨b5, 0, none⟩)), (6, .pointer (some ⟨b6, 0, none⟩)), (9, .slice A E.length c), (39, .slice A E.length c), (40, .int .i64 (E.length : Int)), (41, .int .i64 (z.1 : Int))]) (fun z => [blk b4 43 (rootL a (h : Int)), blk b5 40 (entL x), blk b6 43 [.int .i64 0, .int .i64 0], blk pv 146 (viewL d v), DSK d v.S, own 40 8 (.slice A E.length c) E.length (EL E), Ex h0]) ⟨0, Nat.zero_le _, hk0⟩ ?_; rintro ⟨i, hi, hno⟩ mx hmx; (try dsimp only at hmx ⊢))
  refine Ws ?_
  (refine Wcd ?_ ?_ <;> intro hc)
  · have hil : i < E.length := by omega
    have hil' : i + 1 ≤ E.length := hil
    obtain ⟨y, hy⟩ : ∃ y, y = E.getD i ent0 := ⟨_, rfl⟩
    have hE8 : ((EL E).drop (i * 8)).take 8 = entL y := by rw [hy]; exact EL_eight E i hil
    have hat := any_take (fun y : ENT => decide (y.key = x.key)) E ent0 i hil
    rw [← hy, hno, Bool.false_or] at hat
    refine Ws ?_
    refine Zix (j := i) ?_ (hj := by rfl) (hlt := by exact hil)
    refine Ws ?_
    refine Zlq (ys := entL y) ?_ (hv := by exact hE8) (hl := by rfl)
    refine Ws ?_
    refine Zal fun b12 => ?_
    refine Ws ?_
    refine ZSa (ys := entL y) ?_ (h1 := by exact entL_one5 y)
    refine Ws ?_
    refine Zlg ?_ (hv := by exact key_cells y) (hl := by rfl)
    refine Ws ?_
    refine Zlg ?_ (hv := by exact key_cells x) (hl := by rfl)
    refine Ws ?_
    refine ZoeqlA (r := decide (y.key = x.key)) ?_ (hax := by exact keyS_alk y.key) (hay := by exact keyS_alk x.key) (hr := by exact keyS_eq y.key x.key)
    refine Ws ?_
    by_cases hk : y.key = x.key
    · have hany : E.any (fun y => decide (y.key = x.key)) = true := any_of ent0 hil (by rw [← hy]; exact decide_eq_true hk)
      have hchk : chkE E x = 11 := by rw [chkE, if_pos hany]
      rw [hchk, if_pos (by decide)] at hR0
      refine Zz 49 true ?_ (hi := by exact decide_eq_true hk)
      refine Ws ?_
      refine ZSa (ys := [.int .i64 0, .int .i64 0]) ?_ (h1 := by exact two_int _ _)
      refine Ws ?_
      rw [hR0]
      exact Zfn [blk pv 146 (viewL d v), DSK d v.S] (h := ResL.cons (Zra (rfl : [Value.int .i64 0, Value.int .i64 0].length = 2)) (ResL.cons (Res1.tmp rfl) (ResL.nil))) (hq := by exact ⟨rfl, rfl⟩)
    · have hno' : (E.take (i + 1)).any (fun y => decide (y.key = x.key)) = false := by rw [hat]; exact decide_eq_false hk
      refine Zz 49 false ?_ (hi := by exact decide_eq_false hk)
      refine Ws ?_
      refine Zi 41 ((i + 1 : Nat) : Int) ?_ (hi := by omega)
      exact Zag ⟨i + 1, hil', hno'⟩
  · have hil : i = E.length := by omega
    rw [hil, List.take_length] at hno
    refine Ws ?_
    (refine Wl (α := Σ' (i : Nat), i ≤ E.length ∧ (E.take i).any (fun y => meetsE x y) = false) (fun z => E.length - z.1) (fun z => [(0, .pointer (some ⟨pv, 0, none⟩)), (4, .pointer (some ⟨b4, 0, none⟩)), (5, .pointer (some ⟨b5, 0, none⟩)), (6, .pointer (some ⟨b6, 0, none⟩)), (52, .slice A E.length c), (53, .int .i64 (E.length : Int)), (54, .int .i64 (z.1 : Int))]) (fun z => [blk b4 43 (rootL a (h : Int)), blk b5 40 (entL x), blk b6 43 [.int .i64 0, .int .i64 0], blk pv 146 (viewL d v), DSK d v.S, own 40 8 (.slice A E.length c) E.length (EL E), Ex h0]) ⟨0, Nat.zero_le _, hm0⟩ ?_; rintro ⟨k, hk, hmo⟩ mx hmx; (try dsimp only at hmx ⊢))
    refine Ws ?_
    (refine Wcd ?_ ?_ <;> intro hc2)
    · have hkl : k < E.length := by omega
      have hkl' : k + 1 ≤ E.length := hkl
      obtain ⟨y, hy⟩ : ∃ y, y = E.getD k ent0 := ⟨_, rfl⟩
      have hE8 : ((EL E).drop (k * 8)).take 8 = entL y := by rw [hy]; exact EL_eight E k hkl
      have hat := any_take (fun y : ENT => meetsE x y) E ent0 k hkl
      rw [← hy, hmo, Bool.false_or] at hat
      refine Ws ?_
      refine Zix (j := k) ?_ (hj := by rfl) (hlt := by exact hkl)
      refine Ws ?_
      refine Zlq (ys := entL y) ?_ (hv := by exact hE8) (hl := by rfl)
      refine Ws ?_
      refine Zal fun b14 => ?_
      refine Ws ?_
      refine ZSa (ys := entL y) ?_ (h1 := by exact entL_one5 y)
      refine Ws ?_
      refine Zla (cs := entL x) ?_ (hl := by rfl)
      refine Ws ?_
      refine Zla (cs := entL y) ?_ (hl := by rfl)
      refine Ws ?_
      refine Zcv (tree_meets x y) ?_
      refine Ws ?_
      cases hq : meetsE x y with
      | true =>
        have hany : E.any (fun y => meetsE x y) = true := any_of ent0 hkl (by rw [← hy]; exact hq)
        have hchk : chkE E x = 9 := by rw [chkE, if_neg (by rw [hno]; simp), if_pos hany]
        rw [hchk, if_pos (by decide)] at hR0
        refine Ws ?_
        refine ZSa (ys := [.int .i64 0, .int .i64 0]) ?_ (h1 := by exact two_int _ _)
        refine Ws ?_
        rw [hR0]
        exact Zfn [blk pv 146 (viewL d v), DSK d v.S] (h := ResL.cons (Zra (rfl : [Value.int .i64 0, Value.int .i64 0].length = 2)) (ResL.cons (Res1.tmp rfl) (ResL.nil))) (hq := by exact ⟨rfl, rfl⟩)
      | false =>
        have hmo' : (E.take (k + 1)).any (fun y => meetsE x y) = false := by rw [hat]; exact hq
        refine Ws ?_
        refine Zi 54 ((k + 1 : Nat) : Int) ?_ (hi := by omega)
        exact Zag ⟨k + 1, hkl', hmo'⟩
    · have hkl : k = E.length := by omega
      rw [hkl, List.take_length] at hmo
      have hchk : chkE E x = 0 := by rw [chkE, if_neg (by rw [hno]; simp), if_neg (by rw [hmo]; simp)]
      rw [hchk, if_neg (by decide)] at hR0
      obtain ⟨hGr, hGi⟩ := hG2 hchk
      refine Ws ?_
      by_cases h00 : h = 0
      · rw [if_pos h00] at hR0
        have hGr := hGr h00
        refine Zz 65 true ?_ (hi := by rw [decide_eq_true]; omega)
        refine Ws ?_
        refine Zla (cs := entL x) ?_ (hl := by rfl)
        refine Ws ?_
        (refine Zli (ys := entL x) ?_; intro v68)
        (refine Tri.shape (e := 40) (size := 8) (v := v68) Wp ?_; rintro ⟨A6, c6, rfl⟩)
        refine Ws ?_
        refine Zbu (ys := ndLL true (.slice A6 1 c6) (.slice none 0 0) (.slice none 0 0)) ?_
        refine Ws ?_
        (refine Zli (ys := ndLL true (.slice A6 1 c6) (.slice none 0 0) (.slice none 0 0)) ?_; intro v70)
        (refine Tri.shape (e := 125) (size := 4) (v := v70) Wp ?_; rintro ⟨A7, c7, rfl⟩)
        (with_reducible apply Tri.noneM)
        (with_reducible apply Tri.ownNil 38 2)
        (with_reducible apply Tri.ownNil 3 1)
        refine Tri.joinS (l := []) (e := 40) (size := 8) (v := .slice A6 1 c6) Wp Wp ?_
        refine Tri.joinS (l := [] ++ [_]) (e := 38) (size := 2) (v := .slice none 0 0) Wp Wp ?_
        refine Tri.joinS (l := [] ++ [_] ++ [_]) (e := 3) (size := 1) (v := .slice none 0 0) Wp Wp ?_
        obtain ⟨V4, hV4⟩ : ∃ V4, V4 = [((Value.slice A6 1 c6 : Value), (Value.slice none 0 0 : Value), (Value.slice none 0 0 : Value))] := ⟨_, rfl⟩
        have hl4 : V4.length = 1 := by rw [hV4]; rfl
        have hn4 : ndLL true (.slice A6 1 c6) (.slice none 0 0) (.slice none 0 0) = NDL true V4 := by rw [hV4]; rfl
        have hmr : [] ++ [((.slice A6 1 c6 : Value), 1, entL x)] ++ [((.slice none 0 0 : Value), 0, [])] ++ [((.slice none 0 0 : Value), 0, [])] = RDS V4 [⟨[x], [], []⟩] := by rw [hV4]; rfl
        have hW4 : shp V4 := fun v hv => by
          rw [hV4] at hv
          rw [List.mem_singleton.1 hv]; exact ⟨_, _, _, _, _, _, _, _, _, rfl⟩
        have hR4 : ∀ y ∈ [(⟨[x], [], []⟩ : ND3)], ∀ e ∈ y.E, entR e := fun y hy e he => by
          rw [List.mem_singleton.1 hy] at he
          rw [List.mem_singleton.1 he]; exact hxR
        have hro := view_root pv d 1 v true A7 c7 V4 [⟨[x], [], []⟩] 1 hGr hv (by omega) (by show 1 ≤ 1000; decide) (by decide) hl4 hW4 hR4
        rw [← hR0] at hro
        have hc1 : ((1 : Nat) : Int) = 1 := rfl
        rw [hl4, hc1] at hro
        refine Zat (manyRd ([] ++ [_] ++ [_] ++ [_])) (manyRd (RDS V4 [⟨[x], [], []⟩])) ?_ (e := by rw [← hmr])
        refine Zat (own 125 4 (.slice A7 _ c7) _ _) (own 125 4 (.slice A7 1 c7) 1 (NDL true V4)) ?_ (e := by rw [hn4])
        refine Ws ?_
        refine Zd hro ?_
        refine Ws ?_
        refine ZSa (ys := [.int .i64 R0.2.1.1, .int .i64 (R0.2.1.2 : Int)]) ?_ (h1 := by exact two_int _ _)
        refine Ws ?_
        exact Zfn [blk pv 146 (viewL d R0.1), DSK d R0.1.S] (h := ResL.cons (Zra (rfl : [Value.int .i64 R0.2.1.1, Value.int .i64 (R0.2.1.2 : Int)].length = 2)) (ResL.cons (Res1.tmp rfl) (ResL.nil))) (hq := by exact ⟨rfl, rfl⟩)
      · rw [if_neg h00] at hR0
        obtain ⟨hiG, hVok, hV⟩ := hGi h00
        refine Zz 65 false ?_ (hi := by exact decide_eq_false (by omega))
        refine Ws ?_
        have hins := view_insert pv d x hxR h v a hv (by omega) hiG
        rw [insertT] at hins
        obtain ⟨V, hVd⟩ : ∃ V, V = inN h v a x := ⟨_, rfl⟩
        rw [← hVd] at hins hVok hV hR0
        refine Zla (cs := entL x) ?_ (hl := by rfl)
        refine Ws ?_
        refine Zcs hins ?_
        rintro r3 H3 ⟨A7, c7, VV, rfl, hVl, hVW, rfl⟩
        refine Wap ?_
        refine Ws ?_
        by_cases hz : V.2.2 = 0
        · rw [if_pos hz] at hR0
          obtain ⟨hv1, hv2, hv3, hv4⟩ := hV hz
          have hro := view_root pv d 1 V.1 (decide (h = 1)) A7 c7 VV V.2.1 h hv4 hVok (by omega) hv2 (by omega) hVl hVW hv3
          rw [← hR0] at hro
          refine Zz 85 false ?_ (hi := by rw [hz]; rfl)
          refine Ws ?_
          refine Zd hro ?_
          refine Ws ?_
          refine ZSa (ys := [.int .i64 R0.2.1.1, .int .i64 (R0.2.1.2 : Int)]) ?_ (h1 := by exact two_int _ _)
          refine Ws ?_
          exact Zfn [blk pv 146 (viewL d R0.1), DSK d R0.1.S] (h := ResL.cons (Zra (rfl : [Value.int .i64 R0.2.1.1, Value.int .i64 (R0.2.1.2 : Int)].length = 2)) (ResL.cons (Res1.tmp rfl) (ResL.nil))) (hq := by exact ⟨rfl, rfl⟩)
        · rw [if_neg hz] at hR0
          refine Zz 85 true ?_ (hi := by rw [decide_eq_true]; omega)
          refine Ws ?_
          refine ZSa (ys := [.int .i64 0, .int .i64 0]) ?_ (h1 := by exact two_int _ _)
          refine Ws ?_
          rw [hR0]
          exact Zfn [blk pv 146 (viewL d V.1), DSK d V.1.S] (h := ResL.cons (Zra (rfl : [Value.int .i64 0, Value.int .i64 0].length = 2)) (ResL.cons (Res1.tmp rfl) (ResL.nil))) (hq := by exact ⟨rfl, rfl⟩)
end Go.Proofs.YtcglabmlhljkmaaGreat
end
section
/- txn: what ends changes; an entry alone; does it meet others: the walk. -/
namespace Go.Proofs.YtcglabmlhljkmaaGreat
open Go Go.RowKit Go.Gv
set_option linter.unusedVariables false
set_option linter.unusedSimpArgs false

set_option maxHeartbeats 4000000 in
theorem base_stopped (pb d pv : Nat) (s : SP) (m : BM) (op en : Bool) (e : Nat) (he : e ≠ 2) :
    Gv.Spec Tryz.prog 96 #[.pointer (some ⟨pb, 0, none⟩), .int .i64 (e : Int)] [blk pb 161 (baseL d pv s m op en)]
    (fun r H' => r = .int .i64 (e : Int) ∧ H' = [blk pb 161 (baseL d pv s m op en)]) := by
  refine Gv.Spec.of (fun w h0 hw => ?_)
  refine Calls.enter Tryz.func96 rfl rfl rfl hw ?_
  simp only [argSlots]
  refine Wap ?_
  refine Ws ?_
  refine Zz 6 false ?_ (hi := by exact decide_eq_false (by omega))
  refine Ws ?_
  exact Zfn [blk pb 161 (baseL d pv s m op en)] (hq := by exact ⟨rfl, rfl⟩)
set_option maxHeartbeats 4000000 in
theorem txn_alone (x : ENT) : SpecR Tryz.prog 91 #[entV x] (fun _ => True) (fun r H' => ∃ Av cv, r = ndW true (.slice Av 1 cv) (.slice none 0 0) (.slice none 0 0) ∧ H' = [own 40 8 (.slice Av 1 cv) 1 (entL x)]) := by
  refine SpecR.of (fun w _ => ?_)
  refine Calls.enter Tryz.func91 rfl rfl rfl (St.rebase w) ?_
  simp only [argSlots]
  refine Ws ?_
  (refine Wbx ?_; intro b1)
  refine Ws ?_
  refine Zal fun b2 => ?_
  refine Ws ?_
  refine Zla (cs := entL x) ?_ (hl := by rfl)
  refine Ws ?_
  (refine Zli (ys := entL x) ?_; intro vl)
  (refine Tri.shape (e := 40) (size := 8) (v := vl) Wp ?_; rintro ⟨Av, cv, rfl⟩)
  refine Ws ?_
  refine Zbu (ys := ndLL true (.slice Av 1 cv) (.slice none 0 0) (.slice none 0 0)) ?_
  refine Ws ?_
  refine ZSa (ys := ndLL true (.slice Av 1 cv) (.slice none 0 0) (.slice none 0 0)) ?_ (h1 := by exact ndLL_one true Av none none 1 cv 0 0 0 0)
  refine Ws ?_
  exact Zfn [own 40 8 (.slice Av 1 cv) 1 (entL x)] (h := ResL.cons (Zra (rfl : (ndLL true (.slice Av 1 cv) (.slice none 0 0) (.slice none 0 0)).length = 4)) (ResL.nil)) (hq := by exact ⟨Av, cv, rfl, rfl⟩)
theorem viewL_mp (d : Nat) (v : VS) : (viewL d v)[0 + 258 + 0]? = some (.int .i64 v.m.p) := viewL_at 2
set_option maxHeartbeats 8000000 in
theorem view_SetMap (pv d : Nat) (v : VS) (m : BM) (hv : v.ok) (hm : m.u.length = 512) (hr : rightM m = true) (hp : m.p = v.m.p) :
    Gv.Spec Tryz.prog 22 #[.pointer (some ⟨pv, 0, none⟩), bmV m] [blk pv 146 (viewL d v)]
    (fun r H' => r = .tuple #[] ∧ H' = [blk pv 146 (viewL d ⟨v.S, v.gen, m, v.old⟩)]) := by
  refine Gv.Spec.of (fun w h0 hw => ?_)
  refine Calls.enter Tryz.func22 rfl rfl rfl hw ?_
  simp only [argSlots]
  refine Wap ?_
  refine Ws ?_
  (refine Wbx ?_; intro b3)
  refine Ws ?_
  refine Wm [blk b3 60 (bmL m), blk pv 146 (viewL d v)] ?_
  refine Wq [0, 1, 2] ?_
  refine ZMb 6 true ?_
  refine Zm 3 (h := fun _ _ x => by exact Zla (cs := bmL m) x (hl := by exact bmL_len hm)) (k := ?_)
  refine Zm 4 (h := fun _ _ x => by exact Zcv (bm_Right m hm) x) (k := ?_)
  refine Wq [5, 6] ?_
  refine ZMb 10 true ?_ (hi := by exact hr)
  refine Wq [7] ?_
  refine Zm 8 (h := fun _ _ x => by exact Zl (v := .int .i64 m.p) x) (k := ?_)
  refine Wq [9, 10, 11, 12] ?_
  refine Zm 13 (h := fun _ _ x => by exact Zl x (hv := by exact viewL_mp d v)) (k := ?_)
  refine Wq [14, 15] ?_
  refine ZMb 19 true ?_ (hi := by exact decide_eq_true hp)
  refine ZE ?_
  refine Ws ?_
  refine Zla (cs := bmL m) ?_ (hl := by exact bmL_len hm)
  refine Ws ?_
  refine ZSg (ys := bmL m) ?_ (hl := by exact bmL_len hm) (h1 := by exact bmL_one _) (hi := by rw [viewL_len hv]; omega)
  refine Zat (blk pv _ _) (blk pv 146 (viewL d ⟨v.S, v.gen, m, v.old⟩)) ?_ (e := by rw [viewL_set hv m v.S])
  refine Ws ?_
  exact Zfn [blk pv 146 (viewL d ⟨v.S, v.gen, m, v.old⟩)] (hq := by exact ⟨rfl, rfl⟩)
set_option maxHeartbeats 8000000 in
theorem txn_Abort (pt pb tv d pv : Nat) (a h : Int) (s : SP) (m : BM) (op en : Bool) (hm : m.u.length = 512) :
    Gv.Spec Tryz.prog 47 #[.pointer (some ⟨pt, 0, none⟩)] [blk pt 163 (txL pb tv a h false), blk pb 161 (baseL d pv s m op en)]
    (fun r H' => r = .tuple #[] ∧ H' = [blk pt 163 (txL pb tv a h true), blk pb 161 (baseL d pv s m false en)]) := by
  refine Gv.Spec.of (fun w h0 hw => ?_)
  refine Calls.enter Tryz.func47 rfl rfl rfl hw ?_
  simp only [argSlots]
  refine Wap ?_
  refine Ws ?_
  refine Zz 4 true ?_
  refine Ws ?_
  refine Zz 10 true ?_
  refine Ws ?_
  refine ZS ?_ (hi := by exact (by decide : 4 < 5))
  refine Zat (blk pt _ _) (blk pt 163 (txL pb tv a h true)) ?_
  refine Ws ?_
  refine ZS ?_ (hi := by rw [baseL_len hm]; omega)
  refine Zat (blk pb _ _) (blk pb 161 (baseL d pv s m false en)) ?_ (e := by rw [baseL_set d pv s op en false hm])
  refine Ws ?_
  exact Zfn [blk pt 163 (txL pb tv a h true), blk pb 161 (baseL d pv s m false en)] (hq := by exact ⟨rfl, rfl⟩)
set_option maxHeartbeats 8000000 in
theorem txn_failed (pt pb tv d pv : Nat) (a h : Int) (s : SP) (m : BM) (op en : Bool) (hm : m.u.length = 512) :
    Gv.Spec Tryz.prog 84 #[.pointer (some ⟨pt, 0, none⟩), .int .i64 5] [blk pt 163 (txL pb tv a h false), blk pb 161 (baseL d pv s m op en)]
    (fun r H' => r = .int .i64 5 ∧ H' = [blk pt 163 (txL pb tv a h true), blk pb 161 (baseL d pv s m false en)]) := by
  refine Gv.Spec.of (fun w h0 hw => ?_)
  refine Calls.enter Tryz.func84 rfl rfl rfl hw ?_
  simp only [argSlots]
  refine Wap ?_
  have hst := base_stopped pb d pv s m false en 5 (by decide)
  have h5 : ((5 : Nat) : Int) = 5 := rfl
  rw [h5] at hst
  refine Ws ?_
  refine Zz 6 true ?_
  refine Ws ?_
  refine Zd (txn_Abort pt pb tv d pv a h s m op en hm) ?_
  refine Ws ?_
  refine Zd hst ?_
  refine Ws ?_
  exact Zfn [blk pt 163 (txL pb tv a h true), blk pb 161 (baseL d pv s m false en)] (hq := by exact ⟨rfl, rfl⟩)
theorem meetsE_sym (x y : ENT) : meetsE x y = (decide (y.key.1 = x.key.1) && (decide (x.key.2 ≤ y.fin) && decide (y.key.2 ≤ x.fin))) := by
  rw [meetsE, decide_eq_decide.2 (show x.key.1 = y.key.1 ↔ y.key.1 = x.key.1 from eq_comm)]
set_option maxHeartbeats 8000000 in
theorem txn_meets (pt pb tv d : Nat) (v : VS) (a : Int) (h : Nat) (ov : Bool) (x : ENT) (hv : v.ok) (hl : v.S.W.length ≤ 1000000) (hh : h ≤ 5) (hg : h = 0 ∨ wkG v.S h a) (hlen : (wkE v.S h a).length ≤ 1000000) :
    Gv.Spec Tryz.prog 92 #[.pointer (some ⟨pt, 0, none⟩), entV x] [blk pt 163 (txL pb tv a (h : Int) ov), blk tv 146 (viewL d v), DSK d v.S]
    (fun r H' => r = .int .i64 (chkE (wkE v.S h a) x : Int) ∧ H' = [blk pt 163 (txL pb tv a (h : Int) ov), blk tv 146 (viewL d v), DSK d v.S]) := by
  refine Gv.Spec.of (fun w h0 hw => ?_)
  refine Calls.enter Tryz.func92 rfl rfl rfl hw ?_
  simp only [argSlots]
  refine Wap ?_
  have hall := tree_All tv d v hv hl h a hh hg hlen
  obtain ⟨E, hE⟩ : ∃ E, E = wkE v.S h a := ⟨_, rfl⟩
  rw [← hE] at hall hlen ⊢
  refine Ws ?_
  (refine Wbx ?_; intro b3)
  refine Ws ?_
  refine Wm [blk pt 163 (txL pb tv a (h : Int) ov)] ?_
  refine Wq [0, 1, 2, 3, 4, 5, 6] ?_
  refine Zm 7 (h := fun _ _ x => by exact Zlg (ys := rootL a (h : Int)) x (hl := by rfl)) (k := ?_)
  refine ZA 8 ?_
  refine Zcs hall ?_
  rintro r1 H1 ⟨A, c, rfl, rfl⟩
  refine Wap ?_
  refine Zw ?_
  refine Wq [9, 10, 11, 12, 13] ?_
  refine ZE ?_
  refine Ws ?_
  refine Zz 24 false ?_
  refine Ws ?_
  have hEl8 : (EL E).length = E.length * 8 := EL_lens E rfl
  have hk0 : (E.take 0).any (fun y => decide (y.key = x.key)) = false := by rw [List.take_zero]; rfl
  have hm0 : (E.take 0).any (fun y => meetsE x y) = false := by rw [List.take_zero]; rfl
  (refine Wl (α := Σ' (i : Nat), i ≤ E.length ∧ (E.take i).any (fun y => decide (y.key = x.key)) = false) (fun z => E.length - z.1) (fun z => [(3, .pointer (some ⟨b3, 0, none⟩)), (5, .slice A E.length c), (26, .slice A E.length c), (27, .int .i64 (E.length : Int)), (28, .int .i64 (z.1 : Int))]) (fun z => [blk b3 40 (entL x), blk pt 163 (txL pb tv a (h : Int) ov), blk tv 146 (viewL d v), DSK d v.S, own 40 8 (.slice A E.length c) E.length (EL E), Ex h0]) ⟨0, Nat.zero_le _, hk0⟩ ?_; rintro ⟨i, hi, hno⟩ mx hmx; (try dsimp only at hmx ⊢))
  refine Ws ?_
  (refine Wcd ?_ ?_ <;> intro hc)
  · have hil : i < E.length := by omega
    have hil' : i + 1 ≤ E.length := hil
    obtain ⟨y, hy⟩ : ∃ y, y = E.getD i ent0 := ⟨_, rfl⟩
    have hE8 : ((EL E).drop (i * 8)).take 8 = entL y := by rw [hy]; exact EL_eight E i hil
    have hat := any_take (fun y : ENT => decide (y.key = x.key)) E ent0 i hil
    rw [← hy, hno, Bool.false_or] at hat
    refine Ws ?_
    refine Zix (j := i) ?_ (hj := by rfl) (hlt := by exact hil)
    refine Ws ?_
    refine Zlq (ys := entL y) ?_ (hv := by exact hE8) (hl := by rfl)
    refine Ws ?_
    refine Zal fun b8 => ?_
    refine Ws ?_
    refine ZSa (ys := entL y) ?_ (h1 := by exact entL_one5 y)
    refine Ws ?_
    refine Zlg ?_ (hv := by exact key_cells y) (hl := by rfl)
    refine Ws ?_
    refine Zlg ?_ (hv := by exact key_cells x) (hl := by rfl)
    refine Ws ?_
    refine ZoeqlA (r := decide (y.key = x.key)) ?_ (hax := by exact keyS_alk y.key) (hay := by exact keyS_alk x.key) (hr := by exact keyS_eq y.key x.key)
    refine Ws ?_
    by_cases hk : y.key = x.key
    · have hany : E.any (fun y => decide (y.key = x.key)) = true := any_of ent0 hil (by rw [← hy]; exact decide_eq_true hk)
      have hchk : chkE E x = 11 := by rw [chkE, if_pos hany]
      refine Zz 36 true ?_ (hi := by exact decide_eq_true hk)
      refine Ws ?_
      rw [hchk]
      exact Zfn [blk pt 163 (txL pb tv a (h : Int) ov), blk tv 146 (viewL d v), DSK d v.S] (hq := by exact ⟨rfl, rfl⟩)
    · have hno' : (E.take (i + 1)).any (fun y => decide (y.key = x.key)) = false := by rw [hat]; exact decide_eq_false hk
      refine Zz 36 false ?_ (hi := by exact decide_eq_false hk)
      refine Ws ?_
      refine Zi 28 ((i + 1 : Nat) : Int) ?_ (hi := by omega)
      exact Zag ⟨i + 1, hil', hno'⟩
  · have hil : i = E.length := by omega
    rw [hil, List.take_length] at hno
    refine Ws ?_
    (refine Wl (α := Σ' (i : Nat), i ≤ E.length ∧ (E.take i).any (fun y => meetsE x y) = false) (fun z => E.length - z.1) (fun z => [(3, .pointer (some ⟨b3, 0, none⟩)), (38, .slice A E.length c), (39, .int .i64 (E.length : Int)), (40, .int .i64 (z.1 : Int))]) (fun z => [blk b3 40 (entL x), blk pt 163 (txL pb tv a (h : Int) ov), blk tv 146 (viewL d v), DSK d v.S, own 40 8 (.slice A E.length c) E.length (EL E), Ex h0]) ⟨0, Nat.zero_le _, hm0⟩ ?_; rintro ⟨k, hk, hmo⟩ mx hmx; (try dsimp only at hmx ⊢))
    refine Ws ?_
    (refine Wcd ?_ ?_ <;> intro hc2)
    · have hkl : k < E.length := by omega
      have hkl' : k + 1 ≤ E.length := hkl
      obtain ⟨y, hy⟩ : ∃ y, y = E.getD k ent0 := ⟨_, rfl⟩
      have hE8 : ((EL E).drop (k * 8)).take 8 = entL y := by rw [hy]; exact EL_eight E k hkl
      have hat := any_take (fun y : ENT => meetsE x y) E ent0 k hkl
      rw [← hy, hmo, Bool.false_or, meetsE_sym] at hat
      have hsym := meetsE_sym x y
      refine Ws ?_
      refine Zix (j := k) ?_ (hj := by rfl) (hlt := by exact hkl)
      refine Ws ?_
      refine Zlq (ys := entL y) ?_ (hv := by exact hE8) (hl := by rfl)
      refine Ws ?_
      refine Zal fun b10 => ?_
      refine Ws ?_
      refine ZSa (ys := entL y) ?_ (h1 := by exact entL_one5 y)
      refine Ws ?_
      by_cases e1 : y.key.1 = x.key.1
      · rw [decide_eq_true e1, Bool.true_and] at hat hsym
        refine Zz 51 true ?_ (hi := by exact decide_eq_true e1)
        refine Ws ?_
        by_cases e2 : x.key.2 ≤ y.fin
        · rw [decide_eq_true e2, Bool.true_and] at hat hsym
          refine Zz 59 true ?_ (hi := by exact decide_eq_true e2)
          refine Ws ?_
          by_cases e3 : y.key.2 ≤ x.fin
          · rw [decide_eq_true e3] at hsym
            have hany : E.any (fun y => meetsE x y) = true := any_of ent0 hkl (by rw [← hy]; exact hsym)
            have hchk : chkE E x = 9 := by rw [chkE, if_neg (by rw [hno]; simp), if_pos hany]
            refine Zz 66 true ?_ (hi := by exact decide_eq_true e3)
            refine Ws ?_
            rw [hchk]
            exact Zfn [blk pt 163 (txL pb tv a (h : Int) ov), blk tv 146 (viewL d v), DSK d v.S] (hq := by exact ⟨rfl, rfl⟩)
          · have hmo' : (E.take (k + 1)).any (fun y => meetsE x y) = false := by rw [hat]; exact decide_eq_false e3
            refine Zz 66 false ?_ (hi := by exact decide_eq_false e3)
            refine Ws ?_
            refine Zi 40 ((k + 1 : Nat) : Int) ?_ (hi := by omega)
            exact Zag ⟨k + 1, hkl', hmo'⟩
        · have hmo' : (E.take (k + 1)).any (fun y => meetsE x y) = false := by rw [hat, decide_eq_false e2]; rfl
          refine Zz 59 false ?_ (hi := by exact decide_eq_false e2)
          refine Ws ?_
          refine Zi 40 ((k + 1 : Nat) : Int) ?_ (hi := by omega)
          exact Zag ⟨k + 1, hkl', hmo'⟩
      · have hmo' : (E.take (k + 1)).any (fun y => meetsE x y) = false := by rw [hat, decide_eq_false e1]; rfl
        refine Zz 51 false ?_ (hi := by exact decide_eq_false e1)
        refine Ws ?_
        refine Zi 40 ((k + 1 : Nat) : Int) ?_ (hi := by omega)
        exact Zag ⟨k + 1, hkl', hmo'⟩
    · have hkl : k = E.length := by omega
      rw [hkl, List.take_length] at hmo
      have hchk : chkE E x = 0 := by rw [chkE, if_neg (by rw [hno]; simp), if_neg (by rw [hmo]; simp)]
      refine Ws ?_
      rw [hchk]
      exact Zfn [blk pt 163 (txL pb tv a (h : Int) ov), blk tv 146 (viewL d v), DSK d v.S] (hq := by exact ⟨rfl, rfl⟩)
end Go.Proofs.YtcglabmlhljkmaaGreat
end
section
/- txn: an entry that is put, in plain terms. -/
namespace Go.Proofs.YtcglabmlhljkmaaGreat
open Go Go.RowKit Go.Gv
set_option linter.unusedVariables false
set_option linter.unusedSimpArgs false

/-- an entry of a text, at some page -/
def entT (x : ENT) (a : Int) (text : List UInt8) : ENT := ⟨x.key, x.fin, a, (text.length : Int), x.count, x.codec, (crcSum text).toNat⟩
theorem chkE_T (E : List ENT) (x : ENT) (a : Int) (text : List UInt8) : chkE E (entT x a text) = chkE E x := rfl
/-- a view behind a text that was written -/
def putV (v : VS) (m2 : BM) (t : Nat) (text : List UInt8) : VS := ⟨(v.S.wrs ((t : Int) * 4) (secs (padB text) ((padB text).length / 64))).1, v.gen, m2, v.old⟩
end Go.Proofs.YtcglabmlhljkmaaGreat
end
section
/- tree: a view's map: the walk. -/
namespace Go.Proofs.YtcglabmlhljkmaaGreat
open Go Go.RowKit Go.Gv
set_option linter.unusedVariables false
set_option linter.unusedSimpArgs false

set_option maxHeartbeats 4000000 in
theorem view_Map (pv d : Nat) (v : VS) (hv : v.ok) :
    Gv.Spec Tryz.prog 23 #[.pointer (some ⟨pv, 0, none⟩)] [blk pv 146 (viewL d v)] (fun r H' => r = bmV v.m ∧ H' = [blk pv 146 (viewL d v)]) := by
  refine Gv.Spec.of (fun w h0 hw => ?_)
  refine Calls.enter Tryz.func23 rfl rfl rfl hw ?_
  simp only [argSlots]
  refine Wap ?_
  refine Ws ?_
  refine Zal fun b2 => ?_
  refine Ws ?_
  refine Zz 4 false ?_
  refine Ws ?_
  refine Zlg ?_ (hv := by exact viewL_m hv) (hl := by exact bmL_len hv.m)
  refine Ws ?_
  refine ZSa (ys := bmL v.m) ?_ (hl := by exact bmL_len hv.m) (hc := by exact z513g) (h1 := by exact bmL_one _)
  refine Ws ?_
  exact Zfn [blk pv 146 (viewL d v)] (h := ResL.cons (Zra (bmL_len hv.m)) (ResL.nil)) (hq := by exact ⟨rfl, rfl⟩)
end Go.Proofs.YtcglabmlhljkmaaGreat
end
section
/- txn: Put: the walk. -/
namespace Go.Proofs.YtcglabmlhljkmaaGreat
open Go Go.RowKit Go.Gv
set_option linter.unusedVariables false
set_option linter.unusedSimpArgs false

theorem ent_len {e : ENT} (h : entOk e = true) : 1 ≤ e.len ∧ e.len ≤ 65535 := by
  simp only [entOk, Bool.and_eq_true, betw, decide_eq_true_eq] at h
  exact h.1.1.1.2
theorem putV_ok {v : VS} {m2 : BM} {t : Nat} {text : List UInt8} (hv : v.ok) (hm : m2.u.length = 512) : (putV v m2 t text).ok := ⟨DS.wrs_ok _ _ hv.S, hv.g, hm, hv.o⟩
set_option maxHeartbeats 16000000 in
theorem txn_Put (pt pb tv d pv : Nat) (v : VS) (a : Int) (h : Nat) (s : SP) (m : BM) (op : Bool) (x : ENT) (tx : Value) (text : List UInt8) (h1 : PH) (hrd : Rd h1 tx text.length (B8 text)) (m2 : BM) (t : Nat) (v2 : VS) (a2 : Int) (h2 : Nat)
    (hv : v.ok) (hl : v.S.W.length + text.length ≤ 700000) (hm : m.u.length = 512) (hh : h ≤ 5) (hg : h = 0 ∨ wkG v.S h a) (hlen : (wkE v.S h a).length ≤ 1000000)
    (hok : entOk (entT x 2 text) = true) (hc : chkE (wkE v.S h a) x = 0) (hT : takeM v.m m (pagesE (text.length : Int)) = (m2, (t : Int), 0)) (hm2 : m2.u.length = 512) (hr2 : rightM m2 = true) (hp2 : m2.p = v.m.p) (ht : t ≤ 1000000)
    (hw : (v.S.wrs ((t : Int) * 4) (secs (padB text) ((padB text).length / 64))).2 = 0) (hG : iG (putV v m2 t text) a h (entT x (t : Int) text)) (hI : iN (putV v m2 t text) a h (entT x (t : Int) text) = (v2, (a2, h2), 0)) :
    Gv.Spec Tryz.prog 38 #[.pointer (some ⟨pt, 0, none⟩), entV x, tx] [blk pt 163 (txL pb tv a (h : Int) false), blk pb 161 (baseL d pv s m op false), blk tv 146 (viewL d v), DSK d v.S, Ex h1]
    (fun r H' => r = .int .i64 0 ∧ H' = [blk pt 163 (txL pb tv a2 (h2 : Int) false), blk pb 161 (baseL d pv s m op false), blk tv 146 (viewL d v2), DSK d v2.S, Ex h1]) := by
  refine Gv.Spec.of (fun w h0 hw0 => ?_)
  refine Calls.enter Tryz.func38 rfl rfl rfl hw0 ?_
  simp only [argSlots]
  refine Wap ?_
  obtain ⟨At, ct, rfl, _⟩ := id hrd
  have hel := ent_len hok
  have htl : text.length ≤ 65535 := by have : (entT x 2 text).len = (text.length : Int) := rfl; omega
  have hsum := crc_Sum (.slice At text.length ct) text
  have hmt := txn_meets pt pb tv d v a h false (entT x 2 text) hv (by omega) hh hg hlen
  rw [chkE_T, hc] at hmt
  have hwr := page_WriteRaw d v.S (t : Int) (.slice At text.length ct) text h1 hrd hv.S (by omega) (by omega) (by omega)
  have hin := view_Insert tv d (putV v m2 t text) a h (entT x (t : Int) text) (putV_ok hv hm2) hG
  rw [hI] at hin
  dsimp only at hin
  refine Ws ?_
  (refine Wbx ?_; intro b4)
  refine Ws ?_
  refine Zd (txn_may pt pb tv d pv a (h : Int) false s m op false hm) ?_
  refine Ws ?_
  refine Zz 17 false ?_
  refine Ws ?_
  refine Zlg ?_ (hv := by exact baseL_tab d pv s m op false) (hl := by exact tabL_length)
  refine Ws ?_
  refine Zcv hsum ?_ (hpre := by exact rdw_ex Wp hrd)
  refine Ws ?_
  refine ZS ?_ (hi := by exact (by decide : 3 < 8))
  refine Ws ?_
  refine ZS ?_ (hi := by exact (by decide : 4 < 8))
  refine Ws ?_
  refine ZS ?_ (hi := by exact (by decide : 7 < 8))
  refine Zat (blk b4 _ _) (blk b4 40 (entL (entT x 2 text))) ?_
  refine Ws ?_
  refine Zla (cs := entL (entT x 2 text)) ?_ (hl := by rfl)
  refine Ws ?_
  refine Zcr (txn_alone (entT x 2 text)) ?_
  rintro r2 H2 ⟨Av, cv, rfl, rfl⟩
  refine Wap ?_
  refine Ws ?_
  refine Zat (own 40 8 (.slice Av 1 cv) _ _) (own 40 8 (.slice Av 1 cv) [entT x 2 text].length (EL [entT x 2 text])) ?_
  refine Zcv (node_Right true (.slice Av 1 cv) (.slice none 0 0) (.slice none 0 0) [entT x 2 text] [] []) ?_ (hpre := by exact fun w' hw' => ⟨rdw_own (v := .slice Av 1 cv) Wp w' hw', rd_noneT _, rd_noneT _⟩)
  refine Zz 35 true ?_ (hi := by exact one_right hok)
  refine Ws ?_
  refine Zz 36 false ?_
  refine Ws ?_
  refine Zla (cs := entL (entT x 2 text)) ?_ (hl := by rfl)
  refine Ws ?_
  refine Zd hmt ?_
  refine Ws ?_
  refine Zz 41 false ?_
  refine Ws ?_
  have hpg := node_PagesE (entT x 2 text) ⟨by omega, hel.2⟩
  have hpl : (entT x 2 text).len = (text.length : Int) := rfl
  rw [hpl] at hpg
  have htk := bm_Take v.m m (pagesE (text.length : Int)) hv.m hm
  rw [hT] at htk
  refine Wm [blk pt 163 (txL pb tv a (h : Int) false), blk pb 161 (baseL d pv s m op false), blk b4 40 (entL (entT x 2 text))] ?_
  refine Wq [0, 1, 2, 3, 5, 6, 7, 8, 9, 10] ?_
  refine Zm 11 (h := fun _ _ x => by exact Zlg x (hv := by exact baseL_m hm) (hl := by exact bmL_len hm)) (k := ?_)
  ((first | ((with_reducible apply TriM.q 12); (case ho => rfl); (case hg => rfl)) | ((with_reducible apply TriM.qYes 12); (case ho => rfl); (case hg => rfl); (case hyl => rfl); (case hb => with_reducible rfl))); (case hB => kernel_rfl); (case hd => rfl); (case hn => rfl); (case h => (intro F K hK; (try dsimp only [List.cons_append, List.nil_append]); ((with_reducible apply o_loadAll (cs := entL (entT x 2 text))); (case hx => rfl); (case p => exact (by (first | ((repeat (first | with_reducible exact Pull.head | with_reducible apply Pull.tail)); done) | (repeat (first | exact Pull.head | apply Pull.tail))))); (case hl => rfl); (case hn => rfl)); exact hK)))
  refine ZA2 4 19 ?_ ?_
  refine Zd (view_Map tv d v hv) ?_
  refine Zw ?_
  ((first | ((with_reducible apply TriM.q 13); (case ho => rfl); (case hg => rfl)) | ((with_reducible apply TriM.qYes 13); (case ho => rfl); (case hg => rfl); (case hyl => rfl); (case hb => with_reducible rfl))); (case hB => kernel_rfl); (case hd => rfl); (case hn => rfl); (case h => (intro F K hK; (try dsimp only [List.cons_append, List.nil_append]); (with_reducible apply o_callV (hs := hpg)); (case hargs => (repeat (first | exact evs.nil | (apply evs.cons; (case a => rfl))))); (case hpre => exact fun _ _ => trivial); (case hn => rfl); exact hK)))
  refine Zm 14 (h := fun _ _ x => by exact Zcv htk x) (k := ?_)
  refine Wq [15, 16, 17, 18] ?_
  refine ZA 19 ?_
  refine Zal fun b9 => ?_
  refine Zw ?_
  refine ZA 20 ?_
  refine ZSa (ys := bmL m2) ?_ (hl := by exact bmL_len hm2) (hc := by exact z513g) (h1 := by exact bmL_one _)
  refine Zw ?_
  refine Wq [21, 22] ?_
  refine ZE ?_
  refine Ws ?_
  refine Zz 65 false ?_
  rotate_left
  refine Zal fun b9 => ?_
  refine Zw ?_
  refine ZA 4 ?_
  refine Zd (view_Map tv d v hv) ?_
  refine Zw ?_
  ((first | ((with_reducible apply TriM.q 13); (case ho => rfl); (case hg => rfl)) | ((with_reducible apply TriM.qYes 13); (case ho => rfl); (case hg => rfl); (case hyl => rfl); (case hb => with_reducible rfl))); (case hB => kernel_rfl); (case hd => rfl); (case hn => rfl); (case h => (intro F K hK; (try dsimp only [List.cons_append, List.nil_append]); (with_reducible apply o_callV (hs := hpg)); (case hargs => (repeat (first | exact evs.nil | (apply evs.cons; (case a => rfl))))); (case hpre => exact fun _ _ => trivial); (case hn => rfl); exact hK)))
  refine Zm 14 (h := fun _ _ x => by exact Zcv htk x) (k := ?_)
  refine Wq [15, 16, 17, 18] ?_
  refine ZA 20 ?_
  refine ZSa (ys := bmL m2) ?_ (hl := by exact bmL_len hm2) (hc := by exact z513g) (h1 := by exact bmL_one _)
  refine Zw ?_
  refine Wq [21, 22] ?_
  refine ZE ?_
  refine Ws ?_
  refine Zz 65 false ?_
  rotate_left
  all_goals
    refine Ws ?_
    refine Wm [blk pt 163 (txL pb tv a (h : Int) false), blk b9 60 (bmL m2)] ?_
    refine Wq [0, 1, 2, 3] ?_
    refine Zm 4 (h := fun _ _ x => by exact Zla (cs := bmL m2) x (hl := by exact bmL_len hm2)) (k := ?_)
    refine ZA 5 ?_
    refine Zd (view_SetMap tv d v m2 hv hm2 hr2 hp2) ?_
    refine Zw ?_
    refine ZE ?_
    refine Ws ?_
    refine ZS ?_ (hi := by exact (by decide : 3 < 8))
    refine Zat (blk b4 _ _) (blk b4 40 (entL (entT x (t : Int) text))) ?_
    refine Ws ?_
    refine Zd hwr ?_
    refine Ws ?_
    refine Zz 88 false ?_ (hi := by rw [hw]; rfl)
    refine Ws ?_
    refine Zat (blk tv _ _) (blk tv 146 (viewL d (putV v m2 t text))) ?_
    refine Zat (DSK d _) (DSK d (putV v m2 t text).S) ?_
    refine Wm [blk pt 163 (txL pb tv a (h : Int) false), blk b4 40 (entL (entT x (t : Int) text))] ?_
    refine Wq [0, 1, 2, 3, 4, 5, 6] ?_
    refine Zm 7 (h := fun _ _ x => by exact Zlg (ys := rootL a (h : Int)) x (hl := by rfl)) (k := ?_)
    ((first | ((with_reducible apply TriM.q 8); (case ho => rfl); (case hg => rfl)) | ((with_reducible apply TriM.qYes 8); (case ho => rfl); (case hg => rfl); (case hyl => rfl); (case hb => with_reducible rfl))); (case hB => kernel_rfl); (case hd => rfl); (case hn => rfl); (case h => (intro F K hK; (try dsimp only [List.cons_append, List.nil_append]); ((with_reducible apply o_loadAll (cs := entL (entT x (t : Int) text))); (case hx => rfl); (case p => exact (by (first | ((repeat (first | with_reducible exact Pull.head | with_reducible apply Pull.tail)); done) | (repeat (first | exact Pull.head | apply Pull.tail))))); (case hl => rfl); (case hn => rfl)); exact hK)))
    refine ZA2 9 13 ?_ ?_
    (((with_reducible apply o_callS (hs := hin)); (case hargs => (repeat (first | exact evs.nil | (apply evs.cons; (case a => rfl))))); (case p => (repeat (first | exact Pulls.nil | (apply Pulls.cons; (case a => (first | ((repeat (first | with_reducible exact Gv.Pull.head | with_reducible apply Gv.Pull.tail)); done) | (repeat (first | exact Gv.Pull.head | apply Gv.Pull.tail)))))))); (case hn => rfl)); rintro _ _ ⟨rfl, rfl⟩; (try dsimp only [List.cons_append, List.nil_append]))
    refine Zw ?_
    refine Wq [10, 11, 12] ?_
    refine ZA 13 ?_
    refine Zal fun b13 => ?_
    refine Zw ?_
    refine ZA 14 ?_
    refine ZSa (ys := rootL a2 (h2 : Int)) ?_ (h1 := by exact two_int _ _)
    refine Zw ?_
    refine Wq [15] ?_
    refine ZE ?_
    refine Ws ?_
    refine Zz 106 false ?_
    rotate_left
    refine Zal fun b13 => ?_
    refine Zw ?_
    refine ZA 9 ?_
    (((with_reducible apply o_callS (hs := hin)); (case hargs => (repeat (first | exact evs.nil | (apply evs.cons; (case a => rfl))))); (case p => (repeat (first | exact Pulls.nil | (apply Pulls.cons; (case a => (first | ((repeat (first | with_reducible exact Gv.Pull.head | with_reducible apply Gv.Pull.tail)); done) | (repeat (first | exact Gv.Pull.head | apply Gv.Pull.tail)))))))); (case hn => rfl)); rintro _ _ ⟨rfl, rfl⟩; (try dsimp only [List.cons_append, List.nil_append]))
    refine Zw ?_
    refine Wq [10, 11, 12] ?_
    refine ZA 14 ?_
    refine ZSa (ys := rootL a2 (h2 : Int)) ?_ (h1 := by exact two_int _ _)
    refine Zw ?_
    refine Wq [15] ?_
    refine ZE ?_
    refine Ws ?_
    refine Zz 106 false ?_
    rotate_left
    all_goals
      refine Ws ?_
      refine Zla (cs := rootL a2 (h2 : Int)) ?_ (hl := by rfl)
      refine Ws ?_
      refine ZSg (ys := rootL a2 (h2 : Int)) ?_ (h1 := by exact two_int _ _) (hi := by exact (by decide : 2 + 2 ≤ 5))
      refine Zat (blk pt _ _) (blk pt 163 (txL pb tv a2 (h2 : Int) false)) ?_
      refine Ws ?_
      exact Zfn [blk pt 163 (txL pb tv a2 (h2 : Int) false), blk pb 161 (baseL d pv s m op false), blk tv 146 (viewL d v2), DSK d v2.S, Ex h1] (hq := by exact ⟨rfl, rfl⟩)
end Go.Proofs.YtcglabmlhljkmaaGreat
end
section
/- txn: Put where there is no room, and where the changes are over: the walk. -/
namespace Go.Proofs.YtcglabmlhljkmaaGreat
open Go Go.RowKit Go.Gv
set_option linter.unusedVariables false
set_option linter.unusedSimpArgs false

set_option maxRecDepth 4000 in
set_option maxHeartbeats 4000000 in
theorem txn_Put_over (pt pb tv d pv : Nat) (a h : Int) (s : SP) (m : BM) (op : Bool) (x : ENT) (tx : Value) (hm : m.u.length = 512) :
    Gv.Spec Tryz.prog 38 #[.pointer (some ⟨pt, 0, none⟩), entV x, tx] [blk pt 163 (txL pb tv a h true), blk pb 161 (baseL d pv s m op false)]
    (fun r H' => r = .int .i64 12 ∧ H' = [blk pt 163 (txL pb tv a h true), blk pb 161 (baseL d pv s m op false)]) := by
  refine Gv.Spec.of (fun w h0 hw0 => ?_)
  refine Calls.enter Tryz.func38 rfl rfl rfl hw0 ?_
  simp only [argSlots]
  refine Wap ?_
  refine Ws ?_
  (refine Wbx ?_; intro b4)
  refine Ws ?_
  refine Zd (txn_may pt pb tv d pv a h true s m op false hm) ?_
  refine Ws ?_
  refine Zz 17 true ?_
  refine Ws ?_
  exact Zfn [blk pt 163 (txL pb tv a h true), blk pb 161 (baseL d pv s m op false)] (hq := by exact ⟨rfl, rfl⟩)
set_option maxRecDepth 4000 in
set_option maxHeartbeats 16000000 in
theorem txn_Put_full (pt pb tv d pv : Nat) (v : VS) (a : Int) (h : Nat) (s : SP) (m : BM) (op : Bool) (x : ENT) (tx : Value) (text : List UInt8) (h1 : PH) (hrd : Rd h1 tx text.length (B8 text))
    (hv : v.ok) (hl : v.S.W.length + text.length ≤ 700000) (hm : m.u.length = 512) (hh : h ≤ 5) (hg : h = 0 ∨ wkG v.S h a) (hlen : (wkE v.S h a).length ≤ 1000000)
    (hok : entOk (entT x 2 text) = true) (hc : chkE (wkE v.S h a) x = 0) (hT : (takeM v.m m (pagesE (text.length : Int))).2.2 = 5) :
    Gv.Spec Tryz.prog 38 #[.pointer (some ⟨pt, 0, none⟩), entV x, tx] [blk pt 163 (txL pb tv a (h : Int) false), blk pb 161 (baseL d pv s m op false), blk tv 146 (viewL d v), DSK d v.S, Ex h1]
    (fun r H' => r = .int .i64 5 ∧ H' = [blk pt 163 (txL pb tv a (h : Int) true), blk pb 161 (baseL d pv s m false false), blk tv 146 (viewL d v), DSK d v.S, Ex h1]) := by
  refine Gv.Spec.of (fun w h0 hw0 => ?_)
  refine Calls.enter Tryz.func38 rfl rfl rfl hw0 ?_
  simp only [argSlots]
  refine Wap ?_
  obtain ⟨At, ct, rfl, _⟩ := id hrd
  have hel := ent_len hok
  have htl : text.length ≤ 65535 := by have : (entT x 2 text).len = (text.length : Int) := rfl; omega
  have hsum := crc_Sum (.slice At text.length ct) text
  have hmt := txn_meets pt pb tv d v a h false (entT x 2 text) hv (by omega) hh hg hlen
  rw [chkE_T, hc] at hmt
  refine Ws ?_
  (refine Wbx ?_; intro b4)
  refine Ws ?_
  refine Zd (txn_may pt pb tv d pv a (h : Int) false s m op false hm) ?_
  refine Ws ?_
  refine Zz 17 false ?_
  refine Ws ?_
  refine Zlg ?_ (hv := by exact baseL_tab d pv s m op false) (hl := by exact tabL_length)
  refine Ws ?_
  refine Zcv hsum ?_ (hpre := by exact rdw_ex Wp hrd)
  refine Ws ?_
  refine ZS ?_ (hi := by exact (by decide : 3 < 8))
  refine Ws ?_
  refine ZS ?_ (hi := by exact (by decide : 4 < 8))
  refine Ws ?_
  refine ZS ?_ (hi := by exact (by decide : 7 < 8))
  refine Zat (blk b4 _ _) (blk b4 40 (entL (entT x 2 text))) ?_
  refine Ws ?_
  refine Zla (cs := entL (entT x 2 text)) ?_ (hl := by rfl)
  refine Ws ?_
  refine Zcr (txn_alone (entT x 2 text)) ?_
  rintro r2 H2 ⟨Av, cv, rfl, rfl⟩
  refine Wap ?_
  refine Ws ?_
  refine Zat (own 40 8 (.slice Av 1 cv) _ _) (own 40 8 (.slice Av 1 cv) [entT x 2 text].length (EL [entT x 2 text])) ?_
  refine Zcv (node_Right true (.slice Av 1 cv) (.slice none 0 0) (.slice none 0 0) [entT x 2 text] [] []) ?_ (hpre := by exact fun w' hw' => ⟨rdw_own (v := .slice Av 1 cv) Wp w' hw', rd_noneT _, rd_noneT _⟩)
  refine Zz 35 true ?_ (hi := by exact one_right hok)
  refine Ws ?_
  refine Zz 36 false ?_
  refine Ws ?_
  refine Zla (cs := entL (entT x 2 text)) ?_ (hl := by rfl)
  refine Ws ?_
  refine Zd hmt ?_
  refine Ws ?_
  refine Zz 41 false ?_
  refine Ws ?_
  have hpg := node_PagesE (entT x 2 text) ⟨by omega, hel.2⟩
  have hpl : (entT x 2 text).len = (text.length : Int) := rfl
  rw [hpl] at hpg
  have htk := bm_Take v.m m (pagesE (text.length : Int)) hv.m hm
  have hT5 := takeM_length v.m m (pagesE (text.length : Int)) hv.m
  obtain ⟨T, hTT⟩ : ∃ T, T = takeM v.m m (pagesE (text.length : Int)) := ⟨_, rfl⟩
  rw [← hTT] at htk hT hT5
  rw [hT] at htk
  refine Wm [blk pt 163 (txL pb tv a (h : Int) false), blk pb 161 (baseL d pv s m op false), blk b4 40 (entL (entT x 2 text))] ?_
  refine Wq [0, 1, 2, 3, 5, 6, 7, 8, 9, 10] ?_
  refine Zm 11 (h := fun _ _ qK => by exact Zlg qK (hv := by exact baseL_m hm) (hl := by exact bmL_len hm)) (k := ?_)
  refine Zm 12 (h := fun _ _ qK => by exact Zla (cs := entL (entT x 2 text)) qK (hl := by rfl)) (k := ?_)
  refine ZA2 4 19 ?_ ?_
  refine Zd (view_Map tv d v hv) ?_
  refine Zw ?_
  refine Zm 13 (h := fun _ _ qK => by exact Zcv hpg qK) (k := ?_)
  refine Zm 14 (h := fun _ _ qK => by exact Zcv htk qK) (k := ?_)
  refine Wq [15, 16, 17, 18] ?_
  refine ZA 19 ?_
  refine Zal fun b9 => ?_
  refine Zw ?_
  refine ZA 20 ?_
  refine ZSa (ys := bmL T.1) ?_ (hl := by exact bmL_len hT5) (hc := by exact z513g) (h1 := by exact bmL_one _)
  refine Zw ?_
  refine Wq [21, 22] ?_
  refine ZE ?_
  refine Ws ?_
  refine Zz 65 true ?_
  rotate_left
  refine Zal fun b9 => ?_
  refine Zw ?_
  refine ZA 4 ?_
  refine Zd (view_Map tv d v hv) ?_
  refine Zw ?_
  refine Zm 13 (h := fun _ _ qK => by exact Zcv hpg qK) (k := ?_)
  refine Zm 14 (h := fun _ _ qK => by exact Zcv htk qK) (k := ?_)
  refine Wq [15, 16, 17, 18] ?_
  refine ZA 20 ?_
  refine ZSa (ys := bmL T.1) ?_ (hl := by exact bmL_len hT5) (hc := by exact z513g) (h1 := by exact bmL_one _)
  refine Zw ?_
  refine Wq [21, 22] ?_
  refine ZE ?_
  refine Ws ?_
  refine Zz 65 true ?_
  rotate_left
  all_goals
    refine Ws ?_
    refine Zd (txn_failed pt pb tv d pv a (h : Int) s m op false hm) ?_
    refine Ws ?_
    exact Zfn [blk pt 163 (txL pb tv a (h : Int) true), blk pb 161 (baseL d pv s m false false), blk tv 146 (viewL d v), DSK d v.S, Ex h1] (hq := by exact ⟨rfl, rfl⟩)
end Go.Proofs.YtcglabmlhljkmaaGreat
end
section
/- txn: a commit, in plain terms. -/
namespace Go.Proofs.YtcglabmlhljkmaaGreat
open Go Go.RowKit Go.Gv
set_option linter.unusedVariables false
set_option linter.unusedSimpArgs false

/-- the super of a commit -/
def spN (s : SP) (a : Int) (h : Nat) (t : Nat) : SP := ⟨s.gen + 1, if h = 0 then 0 else a, (h : Int), (t : Int), s.pages⟩
/-- all that is asked of a commit -/
structure CmG (v : VS) (s : SP) (m m1 m2 : BM) (a : Int) (h t : Nat) : Prop where
  hv : v.ok
  hl : v.S.W.length ≤ 700000
  hm : m.u.length = 512
  hm1 : m1.u.length = 512
  hm2 : m2.u.length = 512
  hg : s.gen + 1 < 18446744073709551616
  gv : giveM v.m s.bitmap 1 = (m1, 0)
  tk : takeM m1 m 1 = (m2, (t : Int), 0)
  e1 : (wrPg v.S (mpP (t : Int) (s.gen + 1) m2)).2 = 0
  e2 : (wrPg v.S (mpP (t : Int) (s.gen + 1) m2)).1.fl.2 = 0
  o2 : (wrPg v.S (mpP (t : Int) (s.gen + 1) m2)).1.fl.1.ok
  l2 : (wrPg v.S (mpP (t : Int) (s.gen + 1) m2)).1.fl.1.W.length ≤ 700000
  e3 : (wrS (wrPg v.S (mpP (t : Int) (s.gen + 1) m2)).1.fl.1 (spN s a h t)).2 = 0
  o3 : (wrS (wrPg v.S (mpP (t : Int) (s.gen + 1) m2)).1.fl.1 (spN s a h t)).1.ok
  l3 : (wrS (wrPg v.S (mpP (t : Int) (s.gen + 1) m2)).1.fl.1 (spN s a h t)).1.W.length ≤ 800000
  e4 : (wrS (wrPg v.S (mpP (t : Int) (s.gen + 1) m2)).1.fl.1 (spN s a h t)).1.fl.2 = 0
  o4 : (⟨cmS v.S (spN s a h t) m2, s.gen + 1, m2, m2⟩ : VS).ok
  rm : rightM m2 = true
  pm : m2.p = (((cmS v.S (spN s a h t) m2).A.length / 256 : Nat) : Int)
end Go.Proofs.YtcglabmlhljkmaaGreat
end
section
/- txn: raw texts; an empty store; in plain terms. -/
namespace Go.Proofs.YtcglabmlhljkmaaGreat
open Go Go.RowKit Go.Gv
set_option linter.unusedVariables false
set_option linter.unusedSimpArgs false

/-- a raw text that is written where there is power -/
def rwS (S : DS) (t : Int) (b : List UInt8) : DS × Nat := S.wrs (t * 4) (secs (padB b) ((padB b).length / 64))
theorem raw_on {S : DS} (h : S.on) {t n : Nat} {b : List UInt8} (hb : (padB b).length = n * 256) (hf : t * 256 + n * 256 ≤ S.A.length) :
    (rwS S (t : Int) b).2 = 0 ∧ (rwS S (t : Int) b).1.on ∧ (rwS S (t : Int) b).1.V = putAt S.V (t * 256) (padB b) ∧ (rwS S (t : Int) b).1.A = S.A ∧ (rwS S (t : Int) b).1.W.length ≤ S.W.length + n * 4 ∧
    ∀ x ∈ (rwS S (t : Int) b).1.W, x ∈ S.W ∨ (t ≤ x.1 / 4 ∧ x.1 / 4 < t + n) := by
  have e : (t : Int) * 4 = ((t * 4 : Nat) : Int) := by omega
  obtain ⟨k, hk⟩ : ∃ k, k = (padB b).length / 64 := ⟨_, rfl⟩
  have hk4 : k = n * 4 := by rw [hk, hb]; omega
  have hk64 : k * 64 = (padB b).length := by rw [hk4, hb, Nat.mul_assoc]
  have hfit : t * 4 * 64 + k * 64 ≤ S.A.length := by
    rw [hk64, hb, Nat.mul_assoc]; exact hf
  have h1 := DS.wrs_V h.1 (t * 4) (padB b) h.2.1 h.2.2 k hfit (Nat.le_of_eq hk64)
  have h2 := DS.wrs_len (secs (padB b) k) S ((t * 4 : Nat) : Int)
  have h3 := wrs_W (secs (padB b) k) S (t * 4)
  rw [secs_length] at h2 h3
  rw [rwS, ← hk, e]
  refine ⟨h1.1, ⟨DS.wrs_ok _ _ h.1, h1.2.1, h1.2.2.1⟩, ?_, h2.2, by omega, fun x hx => ?_⟩
  · rw [h1.2.2.2, hk64, List.take_of_length_le (Nat.le_refl _), Nat.mul_assoc]
  · rcases h3 x hx with c | ⟨c1, c2⟩
    · exact .inl c
    · exact .inr ⟨by omega, by omega⟩
def z256 : List UInt8 := List.replicate 256 0
theorem z256_pad : padB z256 = z256 := by
  have h : padN z256.length = 0 := by rw [z256, List.length_replicate]; decide
  rw [padB, h, List.replicate_zero, List.append_nil]
theorem z256_len : z256.length = 256 := List.length_replicate
/-- an empty store's map, super, and disk, step by step -/
def fm1 (k : Nat) : BM := (takeM (newM (k : Int)) (newM (k : Int)) 1).1
def spF (k : Nat) : SP := ⟨1, 0, 0, 2, (k : Int)⟩
def fmA (k : Nat) : DS × Nat := wrPg (DS.new k) (mpP 2 1 (fm1 k))
def fmB (k : Nat) : DS × Nat := (fmA k).1.fl
def fmC (k : Nat) : DS × Nat := wrS (fmB k).1 (spF k)
def fmD (k : Nat) : DS × Nat := rwS (fmC k).1 0 z256
def fmS (k : Nat) : DS := (fmD k).1.fl.1
theorem spF_ok {k : Nat} (h : 8 ≤ k ∧ k ≤ 512) : okS (spF k) = true := by
  have h1 : decide ((8 : Int) ≤ (k : Int)) = true := decide_eq_true (by omega)
  have h2 : decide ((k : Int) ≤ 512) = true := decide_eq_true (by omega)
  have h3 : decide ((2 : Int) < (k : Int)) = true := decide_eq_true (by omega)
  show (decide ((1 : Nat) ≠ 0) && (decide ((8 : Int) ≤ (k : Int)) && (decide ((k : Int) ≤ 512) && ((decide ((2 : Int) ≤ 2) && decide ((2 : Int) < (k : Int))) && (if (0 : Int) = 0 then decide ((0 : Int) = 0) else _))))) = true
  rw [h1, h2, h3, if_pos rfl]; rfl
structure FmG (k : Nat) : Prop where
  tk : takeM (newM (k : Int)) (newM (k : Int)) 1 = (fm1 k, 2, 0)
  len : (fm1 k).u.length = 512
  rm : rightM (fm1 k) = true
  e1 : (fmA k).2 = 0
  o1 : (fmA k).1.ok
  l1 : (fmA k).1.W.length ≤ 100
  e2 : (fmB k).2 = 0
  o2 : (fmB k).1.ok
  l2 : (fmB k).1.W.length ≤ 100
  e3 : (fmC k).2 = 0
  o3 : (fmC k).1.ok
  l3 : (fmC k).1.W.length ≤ 100
  e4 : (fmD k).2 = 0
  o4 : (fmD k).1.ok
  l4 : (fmD k).1.W.length ≤ 100
  e5 : (fmD k).1.fl.2 = 0
  cm : CM k (fmS k) (spF k) (fm1 k) [2]
theorem fm_spec {k : Nat} (h : 8 ≤ k ∧ k ≤ 512) : FmG k := by
  have i0 := Inv.new k h
  obtain ⟨t1, i1⟩ := i0.take h 2 (by omega) (by rw [useAt_new]; rfl) (fun p h1 h2 => by omega)
  have t2 : takeM (newM (k : Int)) (newM (k : Int)) 1 = (fm1 k, 2, 0) := by rw [fm1, t1]; rfl
  have hm : fm1 k = ⟨(newM (k : Int)).p, (newM (k : Int)).u.set 2 true⟩ := by rw [fm1, t1]
  rw [← hm] at i1
  have i1 : Inv k (fm1 k) [2] := i1
  have hrm := i1.right h
  have hon := DS.new_on k h.2
  have hA := DS.new_len k
  have hok := mpP_ok (g := 1) (a := 2) i1 h (by decide)
  obtain ⟨a1, a2, a3, a4, a5⟩ := wrPg_on hon (q := mpP 2 1 (fm1 k)) (a := 2) hok rfl (by rw [hA]; exact fitk (by omega))
  have hpl : (putP (mpP 2 1 (fm1 k))).length = 256 := putP_length _ (okP_spec hok).2.2.2
  have hVl : (DS.new k).V.length = k * 256 := by rw [DS.V_length hon.1, hA]
  have eA : fmA k = wrPg (DS.new k) (mpP 2 1 (fm1 k)) := rfl
  rw [← eA] at a1 a2 a3 a4 a5
  have hW0 : (DS.new k).W.length = 0 := rfl
  obtain ⟨b1, b2, b3, b4, b5⟩ := fl_on a2
  have eB : fmB k = (fmA k).1.fl := rfl
  rw [← eB] at b1 b2 b3 b4 b5
  have hBA : (fmB k).1.A.length = k * 256 := by rw [b4, DS.V_length a2.1, a4, hA]
  have hBV : (fmB k).1.V.length = k * 256 := by rw [DS.V_length b2.1, hBA]
  have hbig : 512 ≤ (fmB k).1.A.length := by omega
  have hfresh : ∀ a, a < 2 → pgAt (fmB k).1.V a = List.replicate 256 0 := fun a ha => by
    rw [b3, a3, pgAt_other _ _ _ _ (by rw [hVl]; exact fitk (by omega)) hpl (by omega), pgAt_fresh k a (by omega)]
  have hinv : InvS (fmB k).1 (spF k).gen (k : Int) := fun a ha => .inl (by rw [hfresh a ha, getP_nought]; simp)
  have sok := spF_ok h
  obtain ⟨c1, c2, c3, c4, c5⟩ := wrS_on b2 hbig sok
  obtain ⟨d1, d2⟩ := inv_step b2 hbig sok (by show 1 < _; decide) (P := (k : Int)) rfl hinv
  have eC : fmC k = wrS (fmB k).1 (spF k) := rfl
  rw [← eC] at c1 c2 c3 c4 c5 d1 d2
  have hCA : (fmC k).1.A.length = k * 256 := by rw [c4, hBA]
  have hCV : (fmC k).1.V.length = k * 256 := by rw [DS.V_length c2.1, hCA]
  have hz : (padB z256).length = 1 * 256 := by rw [z256_pad, z256_len]
  obtain ⟨f1, f2, f3, f4, f5, _⟩ := raw_on c2 (t := 0) hz (by rw [hCA]; omega)
  have eD : fmD k = rwS (fmC k).1 ((0 : Nat) : Int) z256 := rfl
  rw [← eD] at f1 f2 f3 f4 f5
  obtain ⟨g1, g2, g3, g4, g5⟩ := fl_on f2
  have hpS : ∀ p, 1 ≤ p → pgAt (fmD k).1.V p = pgAt (fmC k).1.V p := fun p hp => by
    rw [f3]
    exact pgAt_put _ 0 1 p _ hz (by rw [hCV]; omega) (.inr hp)
  have hp0 : pgAt (fmD k).1.V 0 = List.replicate 256 0 := by
    have := textAt_put (fmC k).1.V 0 1 (padB z256) hz (by rw [hCV]; omega)
    rw [← f3] at this
    rw [z256_pad] at this
    exact this
  have eS : fmS k = (fmD k).1.fl.1 := rfl
  rw [← eS] at g2 g3 g4 g5
  have hl5 : (fmB k).1.W.length = 0 := by rw [b5]; rfl
  refine ⟨t2, i1.len, hrm, a1, a2.1, by omega, b1, b2.1, by omega, c1, c2.1, by omega, f1, f2.1, by omega, g1, ⟨h, g2, ?_, g5, sok, rfl, by show 1 < _; decide, ?_, ?_, i1, ⟨2, rfl, List.mem_singleton.2 rfl, ?_⟩⟩⟩
  · rw [g4, DS.V_length f2.1, f4, hCA]
  · show pgAt (fmS k).V 1 = _
    rw [g3, hpS 1 (by decide)]
    exact d2
  · intro a ha
    by_cases h0 : a = 0
    · left
      rw [h0, g3, hp0, getP_nought]; simp
    · have h1 : a = 1 := by omega
      have := d1 a ha
      rcases this with q | ⟨s, q1, q2, q3, q4, q5, q6⟩
      · exact .inl (by rw [g3, hpS a (by omega)]; exact q)
      · exact .inr ⟨s, q1, q2, q3, q4, q5, by rw [g3, hpS a (by omega)]; exact q6⟩
  · show pgAt (fmS k).V 2 = putP (mpP 2 1 (fm1 k))
    have hs2 : pgAt (fmC k).1.V 2 = pgAt (fmB k).1.V 2 := by
      rw [c3]
      exact pgAt_other _ _ _ _ (by rw [hBV]; show (spF k).gen % 2 * 256 + 256 ≤ _; have : (spF k).gen % 2 < 2 := Nat.mod_lt _ (by decide); omega) (pgS_len _) (by have : (spF k).gen % 2 < 2 := Nat.mod_lt _ (by decide); omega)
    rw [g3, hpS 2 (by decide), hs2, b3, a3, pgAt_same _ _ _ (by rw [hVl]; exact fitk (by omega)) hpl]
end Go.Proofs.YtcglabmlhljkmaaGreat
end
section
/- txn: texts beside a tree; one that is put; in plain terms. -/
namespace Go.Proofs.YtcglabmlhljkmaaGreat
open Go Go.RowKit Go.Gv
set_option linter.unusedVariables false
set_option linter.unusedSimpArgs false

/-- what an entry's pages hold -/
def txE (S : DS) (x : ENT) : List UInt8 := (S.V.drop (x.addr.toNat * 256)).take x.len.toNat
/-- an entry whose text is there -/
structure TxE (S : DS) (x : ENT) : Prop where
  ok : entOk x = true
  fit : x.addr + pagesE x.len ≤ ((S.A.length / 256 : Nat) : Int)
  crc : (crcSum (txE S x)).toNat = x.crc
theorem ent_bounds {x : ENT} (ok : entOk x = true) : (2 ≤ x.addr ∧ x.addr ≤ 511) ∧ (1 ≤ x.len ∧ x.len ≤ 65535) ∧ x.addr + pagesE x.len ≤ 512 := by
  simp only [entOk, Bool.and_eq_true, betw, decide_eq_true_eq] at ok
  exact ⟨ok.1.1.1.1.2, ok.1.1.1.2, ok.1.1.2⟩
theorem TxE.bounds {S : DS} {x : ENT} (h : TxE S x) : (2 ≤ x.addr ∧ x.addr ≤ 511) ∧ (1 ≤ x.len ∧ x.len ≤ 65535) := ⟨(ent_bounds h.ok).1, (ent_bounds h.ok).2.1⟩
theorem TxE.rd {S : DS} {x : ENT} (h : TxE S x) (ho : S.off = false) (hA : S.A.length % 256 = 0) : rdE S (x.addr * 4) ((x.len.toNat + 63) / 64) = 0 := by
  obtain ⟨h1, h2⟩ := h.bounds
  have hf := h.fit
  rw [pagesE] at hf
  obtain ⟨a, ha⟩ : ∃ a : Nat, x.addr = (a : Int) := ⟨x.addr.toNat, by omega⟩
  obtain ⟨n, hn⟩ : ∃ n : Nat, x.len = (n : Int) := ⟨x.len.toNat, by omega⟩
  have e : x.addr * 4 = ((a * 4 : Nat) : Int) := by omega
  rw [e, hn]
  show rdE S _ ((n + 63) / 64) = 0
  refine rdE_of ho _ ?_
  have h3 : (n + 63) / 64 ≤ 4 * ((n + 255) / 256) := by omega
  have h4 : a + (n + 255) / 256 ≤ S.A.length / 256 := by omega
  omega
/-- so many pages an entry's text takes -/
def nE (x : ENT) : Nat := (pagesE x.len).toNat
def txP (x : ENT) : List Nat := runL x.addr.toNat (nE x)
/-- the pages of all texts -/
def txs (E : List ENT) : List Nat := E.flatMap txP
theorem padN_mul (n : Nat) : n + padN n = (n + 255) / 256 * 256 := by
  unfold padN; omega
theorem padB_len (b : List UInt8) : (padB b).length = (b.length + 255) / 256 * 256 := by rw [padB_length, padN_mul]
theorem txE_at (S : DS) (x : ENT) (h : x.len.toNat ≤ nE x * 256) : txE S x = (textAt S.V x.addr.toNat (nE x)).take x.len.toNat := by
  rw [txE, textAt, List.take_take, Nat.min_eq_left h]
theorem nE_ge {x : ENT} (h : 0 ≤ x.len) : x.len.toNat ≤ nE x * 256 := by
  rw [nE, pagesE]; omega
theorem TxE.same {S S' : DS} {x : ENT} (h : TxE S x) (hl : S'.A.length = S.A.length) (hp : ∀ p ∈ txP x, pgAt S'.V p = pgAt S.V p) : TxE S' x ∧ txE S' x = txE S x := by
  have hb := h.bounds
  have e : txE S' x = txE S x := by
    rw [txE_at S' x (nE_ge (by omega)), txE_at S x (nE_ge (by omega)), textAt_same _ hp]
  exact ⟨⟨h.ok, by rw [hl]; exact h.fit, by rw [e]; exact h.crc⟩, e⟩
/-- a node that is read where the page is as it was -/
theorem rdN_pg {S S' : DS} (h : S.on) (h' : S'.on) (hl : S'.A.length = S.A.length) {p : Nat} (hp : p * 256 + 256 ≤ S.A.length) (e : pgAt S'.V p = pgAt S.V p) (lf : Bool) : rdN S' (p : Int) lf = rdN S (p : Int) lf := by
  have e2 : rdPg S' (p : Int) (kindN lf) = rdPg S (p : Int) (kindN lf) := by
    rw [rdPg_on h' p (by rw [hl]; exact hp), rdPg_on h p hp, e]
  rw [rdN, rdN, e2]
theorem same_pg {S S' : DS} {k : Nat} {P : List Nat} (h : S.on) (h' : S'.on) (hk : S.A.length = k * 256) (hk' : S'.A.length = k * 256) (h8 : 8 ≤ k) (hP : ∀ p ∈ P, p < k) (e : ∀ p, (p ∈ P ∨ p < 2) → pgAt S'.V p = pgAt S.V p) : same S S' P := fun p hp => by
  have hpk : p < k := hp.elim (hP p) (fun c => by omega)
  exact ⟨e p hp, fun lf => rdN_pg h h' (by rw [hk, hk']) (by rw [hk]; exact fitk hpk) (e p hp) lf⟩
theorem TI.perm {k : Nat} {mu : Nat → Nat} {O R R' : List Nat} {v : VS} {a : Int} {h : Nat} {E : List ENT} (ti : TI k mu O R v a h E) (p : R.Perm R') : TI k mu O R' v a h E :=
  ⟨ti.vg.perm (List.Perm.append_left _ p), ti.g, ti.ents, ti.ord, ti.h5⟩
/-- a tree whose pages are as they were -/
theorem TI.moved {k : Nat} {mu : Nat → Nat} {O R R' : List Nat} {v v' : VS} {a : Int} {h : Nat} {E : List ENT} (ti : TI k mu O R v a h E) (hv : VG k (pgN v.S h a ++ R') O v') (sm : same v.S v'.S (pgN v.S h a)) : TI k mu O R' v' a h E := by
  rcases ti.g with h0 | g
  · subst h0
    exact ⟨hv, .inl rfl, ti.ents, ti.ord, ti.h5⟩
  · obtain ⟨g1, g2, g3⟩ := tk_same h (rmin h) a g sm
    exact ⟨by rw [g3]; exact hv, .inr g1, by rw [g2]; exact ti.ents, ti.ord, ti.h5⟩
/-- a text beside a tree -/
theorem padB_take' (b : List UInt8) : (padB b).take b.length = b := by unfold padB; rw [List.take_left]
structure TxtR (k : Nat) (mu : Nat → Nat) (O R : List Nat) (v : VS) (a : Int) (h : Nat) (E : List ENT) (text : List UInt8) (n t : Nat) (m2 : BM) : Prop where
  tk : takeM v.m v.old (n : Int) = (m2, (t : Int), 0)
  fit : 2 ≤ t ∧ t + n ≤ k
  len : m2.u.length = 512
  rm : rightM m2 = true
  p : m2.p = v.m.p
  w : (rwS v.S (t : Int) text).2 = 0
  ti : TI k mu O (runL t n ++ R) (putV v m2 t text) a h E
  sm : same v.S (putV v m2 t text).S (pgN v.S h a ++ (R ++ O))
  txt : textAt (putV v m2 t text).S.V t n = padB text
  W : (putV v m2 t text).S.W.length ≤ v.S.W.length + n * 4
  A : (putV v m2 t text).S.A = v.S.A
  new : ∀ p ∈ runL t n, p ∉ pgN v.S h a ++ R ∧ p ∉ O
theorem ti_text {k : Nat} {mu : Nat → Nat} {O R : List Nat} {v : VS} {a : Int} {h : Nat} {E : List ENT} (ti : TI k mu O R v a h E) {n : Nat} {text : List UInt8} (hn : (padB text).length = n * 256) (hn1 : 1 ≤ n) :
    (∃ t m2, TxtR k mu O R v a h E text n t m2) ∨ ((takeM v.m v.old (n : Int)).2.2 = 5 ∧ ∀ t, t + n ≤ k → ¬ runF v.m v.old t n) := by
  have hv := ti.vg
  have hk := hv.k8
  rcases take_run hv.m hv.o hk hn1 with ⟨t, m2, e, hf, hnew, hi⟩ | hno
  · refine .inl ⟨t, m2, ?_⟩
    have hfit : t * 256 + n * 256 ≤ v.S.A.length := by
      rw [hv.len, ← Nat.add_mul]; exact Nat.mul_le_mul_right 256 hf.2
    obtain ⟨r1, r2, r3, r4, r5, r6⟩ := raw_on hv.on (t := t) hn hfit
    have eS : (putV v m2 t text).S = (rwS v.S (t : Int) text).1 := rfl
    have hVl : v.S.V.length = k * 256 := by rw [DS.V_length hv.on.1, hv.len]
    have hfV : t * 256 + n * 256 ≤ v.S.V.length := by rw [hVl, ← hv.len]; exact hfit
    have hpg : ∀ p, (p < t ∨ t + n ≤ p) → pgAt (rwS v.S (t : Int) text).1.V p = pgAt v.S.V p := fun p hp => by
      rw [r3]; exact pgAt_put v.S.V t n p _ hn hfV hp
    have hout : ∀ p, p ∉ runL t n → p < t ∨ t + n ≤ p := fun p hp => by
      by_cases c : p < t
      · exact .inl c
      · by_cases c2 : p < t + n
        · exact absurd (runL_mem.2 ⟨by omega, c2⟩) hp
        · exact .inr (by omega)
    have hsm : same v.S (rwS v.S (t : Int) text).1 (pgN v.S h a ++ (R ++ O)) := by
      refine same_pg hv.on r2 hv.len (by rw [r4, hv.len]) hk.1 (fun p hp => ?_) (fun p hp => hpg p ?_)
      · rcases List.mem_append.1 hp with c | c
        · exact (hv.m.rng p (List.mem_append_left _ c)).2
        · rcases List.mem_append.1 c with c | c
          · exact (hv.m.rng p (List.mem_append_right _ c)).2
          · exact (hv.o.rng p c).2
      · rcases hp with hp | hp
        · refine hout p (fun c => ?_)
          obtain ⟨q1, q2⟩ := hnew p c
          rcases List.mem_append.1 hp with d | d
          · exact q1 (List.mem_append_left _ d)
          · rcases List.mem_append.1 d with d | d
            · exact q1 (List.mem_append_right _ d)
            · exact q2 d
        · exact .inl (by omega)
    refine ⟨e, hf, hi.len, hi.right hk, by rw [hi.p, hv.m.p], r1, ?_, hsm, ?_, r5, r4, hnew⟩
    · refine ti.moved ⟨hk, r2, by rw [eS, r4, hv.len], hv.gen, inv_perm hi ?_, hv.o, fun x hx => ?_⟩ (hsm.sub (fun p hp => List.mem_append_left _ hp))
      · rw [← List.append_assoc, ← List.append_assoc]
        exact List.Perm.append_right _ List.perm_append_comm
      · rcases r6 x hx with c | ⟨c1, c2⟩
        · exact hv.w x c
        · exact ⟨by omega, (hnew _ (runL_mem.2 ⟨c1, c2⟩)).2⟩
    · rw [eS, r3]; exact textAt_put v.S.V t n _ hn hfV
  · exact .inr hno
end Go.Proofs.YtcglabmlhljkmaaGreat
end
section
/- txn: what is there to stay, and changes of it: begun, put, committed; in plain terms. -/
namespace Go.Proofs.YtcglabmlhljkmaaGreat
open Go Go.RowKit Go.Gv
set_option linter.unusedVariables false
set_option linter.unusedSimpArgs false

/-- the pages of a base -/
def bsU (S : DS) (s : SP) (b h : Nat) (E : List ENT) : List Nat := pgN S h s.addr ++ (b :: txs E)
/-- what is there to stay: entries, their texts -/
structure CMT (k : Nat) (mu : Nat → Nat) (S : DS) (s : SP) (m : BM) (b h : Nat) (E : List ENT) : Prop where
  cm : CM k S s m (bsU S s b h E)
  bb : s.bitmap = (b : Int)
  hh : s.height = (h : Int)
  g : h = 0 ∨ tkG S k mu h (rmin h) s.addr
  ents : wkE S h s.addr = E
  ord : ordE E
  h5 : h ≤ 5
  tx : ∀ x ∈ E, TxE S x
/-- changes under way -/
structure TXI (k : Nat) (mu : Nat → Nat) (S0 : DS) (s : SP) (m : BM) (b h0 : Nat) (E0 : List ENT) (v : VS) (a : Int) (h : Nat) (E : List ENT) : Prop where
  c : CMT k mu S0 s m b h0 E0
  gen : v.gen = s.gen + 1
  old : v.old = m
  A : v.S.A = S0.A
  sm : same S0 v.S (bsU S0 s b h0 E0)
  ti : TI k mu (bsU S0 s b h0 E0) (b :: txs E) v a h E
  tx : ∀ x ∈ E, TxE v.S x
theorem CMT.ti {k : Nat} {mu : Nat → Nat} {S : DS} {s : SP} {m : BM} {b h : Nat} {E : List ENT} (c : CMT k mu S s m b h E) (g : Nat) (hg : g < 18446744073709551616) : TI k mu (bsU S s b h E) (b :: txs E) ⟨S, g, m, m⟩ s.addr h E :=
  ⟨c.cm.view g hg, c.g, c.ents, c.ord, c.h5⟩
/-- changes begin -/
theorem CMT.begin {k : Nat} {mu : Nat → Nat} {S : DS} {s : SP} {m : BM} {b h : Nat} {E : List ENT} (c : CMT k mu S s m b h E) : TXI k mu S s m b h E ⟨S, s.gen + 1, m, m⟩ s.addr h E := by
  have hg := c.cm.gen
  exact ⟨c, rfl, rfl, rfl, same.rfl, c.ti _ (by omega), c.tx⟩
theorem insE_perm (E : List ENT) (x : ENT) : (insE E x).Perm (x :: E) := by
  have e : E.takeWhile (fun y => !lessK x.key y.key) ++ E.dropWhile (fun y => !lessK x.key y.key) = E := List.takeWhile_append_dropWhile
  rw [insE]
  refine List.perm_middle.trans ?_
  rw [e]
theorem txs_ins (E : List ENT) (x : ENT) : (txs (insE E x)).Perm (txP x ++ txs E) := List.Perm.flatMap_right _ (insE_perm E x)
theorem entT_ok {x : ENT} {t : Nat} {text : List UInt8} (h : entOk (entT x 2 text) = true) (ht : 2 ≤ t) (hf : (t : Int) + pagesE (text.length : Int) ≤ 512) : entOk (entT x (t : Int) text) = true := by
  have hb := ent_bounds h
  have hl : (entT x 2 text).len = (text.length : Int) := rfl
  have hp : 1 ≤ pagesE (text.length : Int) := by rw [pagesE]; omega
  simp only [entOk, Bool.and_eq_true, betw, decide_eq_true_eq] at h ⊢
  obtain ⟨⟨⟨⟨⟨⟨h1, h2⟩, h3⟩, h4⟩, h5⟩, h6⟩, h7⟩ := h
  refine ⟨⟨⟨⟨⟨⟨h1, h2⟩, ?_⟩, h4⟩, ?_⟩, h6⟩, h7⟩
  · show (2 : Int) ≤ (t : Int) ∧ (t : Int) ≤ 511
    omega
  · exact hf
/-- so many pages a text takes -/
theorem nE_T (x : ENT) (a : Int) (text : List UInt8) : nE (entT x a text) = (text.length + 255) / 256 := by
  show (pagesE (text.length : Int)).toNat = _
  rw [pagesE]; omega
/-- a chunk that is put -/
structure PutR (k : Nat) (mu : Nat → Nat) (S0 : DS) (s : SP) (m : BM) (b h0 : Nat) (E0 : List ENT) (v : VS) (a : Int) (h : Nat) (E : List ENT) (x : ENT) (text : List UInt8) (t : Nat) (m2 : BM) (v2 : VS) (a2 : Int) (h2 : Nat) : Prop where
  mid : TxtR k mu (bsU S0 s b h0 E0) (b :: txs E) v a h E text ((text.length + 255) / 256) t m2
  i : iN (putV v m2 t text) a h (entT x (t : Int) text) = (v2, (a2, h2), 0)
  xi : TXI k mu S0 s m b h0 E0 v2 a2 h2 (insE E (entT x (t : Int) text))
  W : v2.S.W.length ≤ v.S.W.length + (text.length + 255) / 256 * 4 + 60
  txt : txE v2.S (entT x (t : Int) text) = text
theorem put_spec {k : Nat} {mu : Nat → Nat} {S0 : DS} {s : SP} {m : BM} {b h0 : Nat} {E0 : List ENT} {v : VS} {a : Int} {h : Nat} {E : List ENT} {x : ENT} {text : List UInt8} (hmu : ∀ h, mu (h + 1) ≤ limN h) (X : TXI k mu S0 s m b h0 E0 v a h E)
    (hok : entOk (entT x 2 text) = true) (hR : i64R x.key.2 ∧ i64R x.fin) (hc : chkE E x = 0) :
    (∃ t m2 v2 a2 h2, PutR k mu S0 s m b h0 E0 v a h E x text t m2 v2 a2 h2)
    ∨ ((takeM v.m v.old (((text.length + 255) / 256 : Nat) : Int)).2.2 = 5 ∧ ∀ t, t + (text.length + 255) / 256 ≤ k → ¬ runF v.m v.old t ((text.length + 255) / 256))
    ∨ (∃ t m2, TxtR k mu (bsU S0 s b h0 E0) (b :: txs E) v a h E text ((text.length + 255) / 256) t m2 ∧ (iN (putV v m2 t text) a h (entT x (t : Int) text)).2.2 = 5 ∧
        (¬ Fre k (pgN (putV v m2 t text).S h a ++ (runL t ((text.length + 255) / 256) ++ (b :: txs E))) (bsU S0 s b h0 E0) (2 * h + 3) ∨ h = 5)) := by
  have hbd := (ent_bounds hok).2.1
  have hl : (entT x 2 text).len = (text.length : Int) := rfl
  rw [hl] at hbd
  obtain ⟨n, hn⟩ : ∃ n, n = (text.length + 255) / 256 := ⟨_, rfl⟩
  rw [← hn]
  have hn1 : 1 ≤ n := by omega
  rcases ti_text X.ti (n := n) (text := text) (by rw [padB_len, hn]) hn1 with ⟨t, m2, T⟩ | hno
  · have hfit := T.fit
    have hk := X.ti.vg.k8
    have hpn : pagesE (text.length : Int) = (n : Int) := by rw [pagesE, hn]; omega
    have hok2 := entT_ok hok hfit.1 (by rw [hpn]; omega)
    obtain ⟨y, hy⟩ : ∃ y, y = entT x (t : Int) text := ⟨_, rfl⟩
    rw [← hy] at hok2
    have hcr : (crcSum text).toNat < 4294967296 := (crcSum text).toNat_lt
    have hyR : entR y := by rw [hy]; exact ⟨hR.1, hR.2, hcr⟩
    have hyc : chkE E y = 0 := by rw [hy, chkE_T]; exact hc
    have hyP : txP y = runL t n := by rw [txP, hy, nE_T, ← hn]; rfl
    rcases i_spec hmu T.ti hok2 hyR hyc with ⟨v2, t2, H, e, ti2, hW, hsm, hH⟩ | ⟨h5, hF⟩
    · refine .inl ⟨t, m2, v2, (t2 : Int), H, ?_⟩
      have hA2 : v2.S.A = v.S.A := by
        have := (iN_keep (putV v m2 t text) a h y).2.2
        rw [e] at this
        exact this.trans T.A
      have hg2 : v2.gen = v.gen := by
        have := (iN_keep (putV v m2 t text) a h y).1
        rw [e] at this
        exact this
      have ho2 : v2.old = v.old := by
        have := (iN_keep (putV v m2 t text) a h y).2.1
        rw [e] at this
        exact this
      have hall : same v.S v2.S ((b :: txs E) ++ bsU S0 s b h0 E0) := by
        refine (T.sm.sub (fun p hp => List.mem_append_right _ hp)).trans (hsm.sub (fun p hp => ?_))
        rw [List.append_assoc]
        exact List.mem_append_right _ hp
      have hnA : v.S.A.length = k * 256 := X.ti.vg.len
      have htext : txE v2.S y = text := by
        have e1 : textAt v2.S.V t n = padB text := by
          rw [← T.txt]
          refine textAt_same n (fun p hp => ((hsm p (.inl ?_)).1))
          rw [List.append_assoc]
          exact List.mem_append_left _ hp
        have ea : y.addr.toNat = t := by rw [hy]; rfl
        have el : y.len.toNat = text.length := by rw [hy]; rfl
        have en : nE y = n := by rw [hy, nE_T, hn]
        rw [txE_at v2.S y (by rw [el, en, hn]; omega), ea, el, en, e1]
        exact padB_take' text
      refine ⟨by rw [← hn]; exact T, by rw [← hy]; exact e, ?_, by have := T.W; omega, by rw [← hy]; exact htext⟩
      rw [← hy]
      refine ⟨X.c, by rw [hg2, X.gen], by rw [ho2, X.old], by rw [hA2, X.A], X.sm.trans (hall.sub (fun p hp => List.mem_append_right _ hp)), ti2.perm ?_, fun z hz => ?_⟩
      · refine List.perm_middle.trans (List.Perm.cons b ?_)
        have := txs_ins E y
        rw [hyP] at this
        exact this.symm
      · rcases List.mem_cons.1 ((insE_perm E y).mem_iff.1 hz) with rfl | hz
        · refine ⟨hok2, ?_, by rw [htext, hy]; rfl⟩
          rw [hA2, hnA, Nat.mul_div_cancel _ (by decide : 0 < 256), hy]
          show (t : Int) + pagesE (text.length : Int) ≤ (k : Int)
          rw [hpn]; omega
        · refine ((X.tx z hz).same (by rw [hA2]) (fun p hp => (hall p (.inl ?_)).1)).1
          refine List.mem_append_left _ (List.mem_cons_of_mem _ ?_)
          exact List.mem_flatMap.2 ⟨z, hz, hp⟩
    · exact .inr (.inr ⟨t, m2, T, by rw [← hy]; exact h5, hF⟩)
  · refine .inr (.inl ⟨?_, ?_⟩)
    · exact hno.1
    · exact hno.2
end Go.Proofs.YtcglabmlhljkmaaGreat
end
section
/- txn: what is committed is there to stay; in plain terms. -/
namespace Go.Proofs.YtcglabmlhljkmaaGreat
open Go Go.RowKit Go.Gv
set_option linter.unusedVariables false
set_option linter.unusedSimpArgs false

/-- a tree whose pages read as they did -/
theorem tk_moved {S S' : DS} {k : Nat} {mu : Nat → Nat} : ∀ (h m : Nat) (a : Int), tkG S k mu h m a → (∀ p ∈ pgN S h a, ∀ lf, rdN S' (p : Int) lf = rdN S (p : Int) lf) → tkG S' k mu h m a ∧ wkE S' h a = wkE S h a ∧ pgN S' h a = pgN S h a
  | 0, _, _, g, _ => g.elim
  | h + 1, m, a, g, sm => by
    obtain ⟨⟨p, hp, hp2⟩, g1, g2, g3, g4, g5, g6⟩ := g
    have hr : rdN S' a (decide (h = 0)) = rdN S a (decide (h = 0)) := by
      have := sm p (by rw [pgN, hp]; exact List.mem_cons_self ..) (decide (h = 0))
      rw [hp]; exact this
    have ih := fun d (hd : d ∈ (rdN S a (decide (h = 0))).D) => tk_moved h (mu h) d (g5 d hd) (fun q hq => sm q (by
      rw [pgN]
      exact List.mem_cons_of_mem _ (List.mem_flatMap.2 ⟨d, hd, hq⟩)))
    refine ⟨⟨⟨p, hp, hp2⟩, by rw [hr]; exact g1, by rw [hr]; exact g2, by rw [hr]; exact g3, by rw [hr]; exact g4, fun d hd => by rw [hr] at hd; exact (ih d hd).1, ?_⟩, ?_, ?_⟩
    · rw [hr, g6]
      exact List.map_congr_left (fun d hd => by rw [headK, headK, (ih d hd).2.1])
    · rw [wkE, wkE, hr, flat_congr (fun d hd => (ih d hd).2.1)]
    · rw [pgN, pgN, hr, flat_congr (fun d hd => (ih d hd).2.2)]
theorem CM.perm {k : Nat} {S : DS} {s : SP} {m : BM} {U U' : List Nat} (c : CM k S s m U) (p : U.Perm U') : CM k S s m U' :=
  ⟨c.k8, c.on, c.len, c.W, c.sok, c.pages, c.gen, c.sup, c.old, inv_perm c.mok p, by
    obtain ⟨b, h1, h2, h3⟩ := c.bit
    exact ⟨b, h1, p.mem_iff.1 h2, h3⟩⟩
/-- the steps of a commit -/
theorem cm_more {S : DS} {k : Nat} {s : SP} {m : BM} {U : List Nat} {b : Nat} (h8 : 8 ≤ k ∧ k ≤ 512) (hon : S.on) (hA : S.A.length = k * 256) (ok : okS s = true) (hb : s.bitmap = (b : Int)) (hi : Inv k m U) (hbU : b ∈ U) :
    (wrPg S (mpP s.bitmap s.gen m)).1.fl.1.on ∧ (wrPg S (mpP s.bitmap s.gen m)).1.fl.1.W.length = 0 ∧ (wrS (wrPg S (mpP s.bitmap s.gen m)).1.fl.1 s).1.on ∧ (wrS (wrPg S (mpP s.bitmap s.gen m)).1.fl.1 s).1.W.length ≤ 100 := by
  have hr := hi.rng b hbU
  have hok := mpP_ok (g := s.gen) (a := b) hi h8 (by omega)
  obtain ⟨a1, a2, a3, a4, a5⟩ := wrPg_on hon (q := mpP s.bitmap s.gen m) (a := b) (by rw [hb]; exact hok) hb (by rw [hA]; exact fitk hr.2)
  obtain ⟨b1, b2, b3, b4, b5⟩ := fl_on a2
  have h2A : (wrPg S (mpP s.bitmap s.gen m)).1.fl.1.A.length = k * 256 := by rw [b4, DS.V_length a2.1, a4, hA]
  obtain ⟨d1, d2, d3, d4, d5⟩ := wrS_on b2 (by omega) ok
  have h0 : (wrPg S (mpP s.bitmap s.gen m)).1.fl.1.W.length = 0 := by rw [b5]; rfl
  exact ⟨b2, h0, d2, by omega⟩
theorem spN_ok {k : Nat} {s : SP} {a : Int} {h t : Nat} (h8 : 8 ≤ k ∧ k ≤ 512) (hp : s.pages = (k : Int)) (ht : 2 ≤ t ∧ t < k) (h5 : h ≤ 5) (ha : h ≠ 0 → ∃ p : Nat, a = (p : Int) ∧ (2 ≤ p ∧ p < k) ∧ p ≠ t) : okS (spN s a h t) = true := by
  show (decide (s.gen + 1 ≠ 0) && (decide ((8 : Int) ≤ s.pages) && (decide (s.pages ≤ 512) && ((decide ((2 : Int) ≤ (t : Int)) && decide ((t : Int) < s.pages)) &&
    (if (h : Int) = 0 then decide ((if h = 0 then (0 : Int) else a) = 0) else decide ((0 : Int) < (h : Int)) && (decide ((h : Int) ≤ 5) && ((decide ((2 : Int) ≤ (if h = 0 then (0 : Int) else a)) && decide ((if h = 0 then (0 : Int) else a) < s.pages)) && decide ((if h = 0 then (0 : Int) else a) ≠ (t : Int))))))))) = true
  rw [hp, decide_eq_true (show s.gen + 1 ≠ 0 by omega), decide_eq_true (show (8 : Int) ≤ (k : Int) by omega), decide_eq_true (show (k : Int) ≤ 512 by omega), decide_eq_true (show (2 : Int) ≤ (t : Int) by omega), decide_eq_true (show (t : Int) < (k : Int) by omega)]
  by_cases h0 : h = 0
  · rw [if_pos (by omega), if_pos h0]; rfl
  · obtain ⟨p, hp1, hp2, hp3⟩ := ha h0
    rw [if_neg (by omega), if_neg h0, hp1, decide_eq_true (show (0 : Int) < (h : Int) by omega), decide_eq_true (show (h : Int) ≤ 5 by omega), decide_eq_true (show (2 : Int) ≤ (p : Int) by omega), decide_eq_true (show (p : Int) < (k : Int) by omega), decide_eq_true (show (p : Int) ≠ (t : Int) by omega)]
    rfl
/-- changes are committed, or there is no page for the map -/
theorem commit_spec {k : Nat} {mu : Nat → Nat} {S0 : DS} {s : SP} {m : BM} {b h0 : Nat} {E0 : List ENT} {v : VS} {a : Int} {h : Nat} {E : List ENT} (X : TXI k mu S0 s m b h0 E0 v a h E) (hW : v.S.W.length ≤ 600000) (hg : s.gen + 1 < 1000000000) :
    (∃ t m1 m2, CmG v s m m1 m2 a h t ∧ CMT k mu (cmS v.S (spN s a h t) m2) (spN s a h t) m2 t h E ∧ t ∉ bsU S0 s b h0 E0 ∧ ∀ x ∈ E, txE (cmS v.S (spN s a h t) m2) x = txE v.S x)
    ∨ (∃ m1, giveM v.m s.bitmap 1 = (m1, 0) ∧ m1.u.length = 512 ∧ (takeM m1 m 1).2.2 = 5 ∧ ¬ Fre k (pgN v.S h a ++ txs E) (bsU S0 s b h0 E0) 1) := by
  have hv := X.ti.vg
  have hk := hv.k8
  obtain ⟨m1, e1, i1⟩ := give_inv (inv_perm hv.m List.perm_middle) hk
  have hom : Inv k m (bsU S0 s b h0 E0) := by rw [← X.old]; exact hv.o
  have egv : giveM v.m s.bitmap 1 = (m1, 0) := by rw [X.c.bb]; exact e1
  rcases take_inv i1 hom hk with ⟨t, m2, e2, ht, htU, htO, i2⟩ | ⟨e5, hF⟩
  · refine .inl ⟨t, m1, m2, ?_⟩
    have hpage : h ≠ 0 → ∃ p : Nat, a = (p : Int) ∧ (2 ≤ p ∧ p < k) ∧ p ≠ t := fun hne => by
      obtain ⟨p, p1, p2, l, p3⟩ := tk_page (X.ti.g.resolve_left hne)
      refine ⟨p, p1, p2, fun c => htU (List.mem_append_left _ ?_)⟩
      rw [p3, c]; exact List.mem_cons_self ..
    obtain ⟨s', hs'⟩ : ∃ s', s' = spN s a h t := ⟨_, rfl⟩
    have ok : okS s' = true := by rw [hs']; exact spN_ok hk X.c.cm.pages ht X.ti.h5 hpage
    have hb' : s'.bitmap = (t : Int) := by rw [hs']; rfl
    have hg' : s'.gen = s.gen + 1 := by rw [hs']; rfl
    have hp' : s'.pages = (k : Int) := by rw [hs']; exact X.c.cm.pages
    have hh' : s'.height = (h : Int) := by rw [hs']; rfl
    have ha' : s'.addr = if h = 0 then 0 else a := by rw [hs']; rfl
    obtain ⟨q1, q2, q3, q4, qc, qp⟩ := cm_step X.c.cm hv.on X.A (fun p hp => (X.sm p (.inr hp)).1) ok hg' (by omega) hp' hb' i2 (List.mem_cons_self ..)
    obtain ⟨r1, r2, r3, r4⟩ := cm_more hk hv.on hv.len ok hb' i2 (List.mem_cons_self ..)
    obtain ⟨S', hS'⟩ : ∃ S', S' = cmS v.S s' m2 := ⟨_, rfl⟩
    have hSdef : cmS v.S s' m2 = (wrS (wrPg v.S (mpP s'.bitmap s'.gen m2)).1.fl.1 s').1.fl.1 := rfl
    rw [hb', hg'] at q1 q2 q3 q4 r1 r2 r3 r4
    have hpm : m2.p = (((cmS v.S s' m2).A.length / 256 : Nat) : Int) := by rw [qc.div]; exact i2.p
    have hvok : (⟨cmS v.S s' m2, s.gen + 1, m2, m2⟩ : VS).ok := (qc.view (s.gen + 1) (by omega)).ok
    have htx : ∀ x ∈ E, TxE (cmS v.S s' m2) x ∧ txE (cmS v.S s' m2) x = txE v.S x := fun x hx => by
      refine (X.tx x hx).same (by rw [qc.len, hv.len]) (fun p hp => ?_)
      have hmem : p ∈ txs E := List.mem_flatMap.2 ⟨x, hx, hp⟩
      have hr := i2.rng p (List.mem_cons_of_mem _ (List.mem_append_right _ hmem))
      exact qp p hr.1 hr.2 (fun c => htU (List.mem_append_right _ (c ▸ hmem)))
    refine ⟨?_, ?_, htO, fun x hx => by rw [← hs']; exact (htx x hx).2⟩
    · rw [hs'] at q3 q4 r3 r4 hpm hvok
      exact ⟨hv.ok, by omega, hom.len, i1.len, i2.len, by omega, egv, e2, q1, q2, r1.1, by omega, q3, r3.1, by omega, q4, hvok, i2.right hk, hpm⟩
    · rw [← hs', ← hS']
      rw [← hS'] at qc qp
      have hrd : ∀ p ∈ pgN v.S h a, ∀ lf, rdN S' (p : Int) lf = rdN v.S (p : Int) lf := fun p hp lf => by
        have hr := i2.rng p (List.mem_cons_of_mem _ (List.mem_append_left _ hp))
        refine rdN_pg hv.on qc.on (by rw [qc.len, hv.len]) (by rw [hv.len]; exact fitk hr.2) (qp p hr.1 hr.2 (fun c => htU (List.mem_append_left _ (c ▸ hp)))) lf
      have htree : (h = 0 ∨ tkG S' k mu h (rmin h) s'.addr) ∧ wkE S' h s'.addr = E ∧ pgN S' h s'.addr = pgN v.S h a := by
        rcases Nat.eq_zero_or_pos h with hz | hz
        · subst hz
          exact ⟨.inl rfl, X.ti.ents, rfl⟩
        · have hne : h ≠ 0 := by omega
          rw [ha', if_neg hne]
          obtain ⟨g1, g2, g3⟩ := tk_moved h (rmin h) a (X.ti.g.resolve_left hne) hrd
          exact ⟨.inr g1, by rw [g2]; exact X.ti.ents, g3⟩
      refine ⟨qc.perm ?_, hb', hh', htree.1, htree.2.1, X.ti.ord, X.ti.h5, fun x hx => by rw [hS']; exact (htx x hx).1⟩
      rw [bsU, htree.2.2]
      exact List.perm_middle.symm
  · exact .inr ⟨m1, egv, i1.len, e5, hF⟩
end Go.Proofs.YtcglabmlhljkmaaGreat
end
