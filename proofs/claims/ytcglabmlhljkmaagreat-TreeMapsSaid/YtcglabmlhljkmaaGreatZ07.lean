/- Texts of this claim, put together: TvWalk14, TvWalk5, TvWalk15, TxWalk3, TmWalk, TvPlain9, TfPlain2, TxPlain5, TxPlain6, TxPlain7, TxPlain8, TxPlain9, TxPlain10, TxPlain11, TmPlain, SoLays, SoSort, TvWalk18, TfWalk, TvWalk16, TvWalk17, TfWalk2, GvLaw, TmMapsWalk, GvRead, GvRead2. -/
import Derived.Test.YtcglabmlhljkmaaGreatZ02
import Derived.Test.YtcglabmlhljkmaaGreatZ06
import Derived.Test.YtcglabmlhljkmaaGreatZ05
import Derived.Test.YtcglabmlhljkmaaGreatZ01
import Derived.Test.YtcglabmlhljkmaaGreatZ03
import Derived.Test.YtcglabmlhljkmaaGreatChecked
import Derived.Shelf.Sort.Plain
import Derived.Test.YtcglabmlhljkmaaGreatZ04
import Derived.Test.YtcglabmlhljkmaaGreatZ00
import Derived.Sort.OwnSortedInts
section
/- tree: an entry more, below: the walk. -/
namespace Go.Proofs.YtcglabmlhljkmaaGreat
open Go Go.RowKit Go.Gv
set_option linter.unusedVariables false
set_option linter.unusedSimpArgs false

/-- an entry more, below -/
def insertT (pv d : Nat) (v : VS) (h : Nat) (a : Int) (x : ENT) : Prop :=
  Gv.Spec Tryz.prog 71 #[.pointer (some ⟨pv, 0, none⟩), .int .i64 a, .int .i64 (h : Int), entV x] [blk pv 146 (viewL d v), DSK d v.S]
    (fun r H' => ∃ (AZ : Option Addr) (cz : Nat) (VZ : List (Value × Value × Value)), r = .tuple #[.slice AZ VZ.length cz, .int .i64 ((inN h v a x).2.2 : Int)] ∧ VZ.length = (inN h v a x).2.1.length ∧ shp VZ
      ∧ H' = [blk pv 146 (viewL d (inN h v a x).1), DSK d (inN h v a x).1.S, own 125 4 (.slice AZ VZ.length cz) VZ.length (NDL (decide (h = 1)) VZ), manyRd (RDS VZ (inN h v a x).2.1)])
set_option maxHeartbeats 8000000 in
theorem insert_leaf (pv d : Nat) (v : VS) (a : Int) (x : ENT) (hv : v.ok) (hx : entR x) (hG : inG 1 v a x) : insertT pv d v 1 a x := by
  refine Gv.Spec.of (fun w h0 hw => ?_)
  refine Calls.enter Tryz.func71 rfl rfl rfl hw ?_
  simp only [argSlots]
  refine Wap ?_
  rw [inG] at hG
  obtain ⟨⟨ha, hl, he, hlf, hok, hE, hD, hgi⟩, hidx, _⟩ := hG
  have hidx := hidx rfl
  have hin := inN_leaf (x := x) he hgi
  obtain ⟨R0, hR0⟩ : ∃ R, R = inN 1 v a x := ⟨_, rfl⟩
  rw [← hR0] at hin ⊢
  have hNd := view_Node pv d v a true hv (by omega) ha
  have hd1 : decide ((0 : Nat) = 0) = true := rfl
  rw [hd1] at he hlf hok hE hD
  obtain ⟨hK0, hD0⟩ := hok
  obtain ⟨N, hN⟩ : ∃ N, N = rdN v.S a true := ⟨_, rfl⟩
  rw [← hN] at hNd he hlf hE hD hidx hin hK0 hD0
  have hK0 : N.K = [] := hK0
  have hD0 : N.D = [] := hD0
  have hgS := giN_S v a
  have hdk : DSK d v.S = DSK d (giN v a).1.S := by rw [hgS]
  have hgv := view_give pv d v a hv
  have hixr : (if idxE N.E x.key < N.E.length then (idxE N.E x.key : Int) else -1) = -1 := by rw [hidx, if_neg (by omega)]
  rw [hidx, List.take_length, List.drop_length] at hin
  refine Ws ?_
  (refine Wbx ?_; intro b7)
  refine Ws ?_
  refine Zz 20 true ?_
  refine Zcs hNd ?_
  rintro r1 H1 ⟨A, c, B, e, C, f, rfl, rfl⟩
  refine Wap ?_
  refine Ws ?_
  refine Zal fun b10 => ?_
  refine Ws ?_
  refine ZSa (ys := ndLL N.leaf (.slice A N.E.length c) (.slice B N.K.length e) (.slice C N.D.length f)) ?_ (h1 := by exact ndLL_one N.leaf A B C _ c _ e _ f)
  refine Ws ?_
  refine Zz 25 false ?_ (hi := by rw [he]; rfl)
  refine Ws ?_
  refine Zd hgv ?_
  refine Ws ?_
  refine Zz 31 false ?_ (hi := by rw [hgi]; rfl)
  refine Ws ?_
  refine Zz 34 true ?_
  refine Ws ?_
  refine ZomakeFunc (vs := [.pointer (some ⟨b7, 0, none⟩)]) ?_ (hc := by exact ⟨rfl, trivial⟩)
  refine Ws ?_
  have hix := slices_IndexFuncE A c N.E x b7 (by omega)
  rw [hixr] at hix
  refine Zd hix ?_
  refine Ws ?_
  refine Zz 40 true ?_
  refine Ws ?_
  refine Zla (cs := entL x) ?_ (hl := by rfl)
  refine Ws ?_
  (refine Zli (ys := entL x) ?_; intro v48)
  have hins := slices_InsEndEntry A N.E.length c v48 1 (EL N.E) (entL x) (by omega) (by decide) (entL_one x) rfl
  refine Ws ?_
  refine Zcs hins ?_
  rintro r4 H4 ⟨A4, a4, rfl, rfl⟩
  refine Wap ?_
  refine Ws ?_
  refine ZS ?_ (hi := by exact (by decide : 1 < 4))
  refine Zat (blk b10 _ _) (blk b10 125 (ndLL true (.slice A4 (N.E.length + 1) a4) (.slice B N.K.length e) (.slice C N.D.length f))) ?_ (e := by rw [hlf]; rfl)
  obtain ⟨Z, hZ⟩ : ∃ Z : ND3, Z = ⟨N.E ++ x :: [], N.K, N.D⟩ := ⟨_, rfl⟩
  rw [← hZ] at hin
  have hZE : Z.E.length = N.E.length + 1 := by rw [hZ]; simp
  have hZL : EL N.E ++ entL x = EL Z.E := by
    rw [hZ]
    show _ = EL (N.E ++ [x])
    rw [EL_app]; simp [EL]
  have hZK : Z.K = N.K := by rw [hZ]
  have hZD : Z.D = N.D := by rw [hZ]
  have hZo : okN true Z := ⟨by rw [hZK]; exact hK0, by rw [hZD]; exact hD0⟩
  have hZs : szN true Z = N.E.length + 1 := hZE
  have hsp := node_Split true (szN true Z) Z (.slice A4 (N.E.length + 1) a4) (.slice B N.K.length e) (.slice C N.D.length f) hZo (Nat.le_refl _) (by omega)
  have hsq : splN true (szN true Z + 1) Z = splitN true Z := rfl
  refine Zat (own 40 8 (.slice A4 (N.E.length + 1) a4) _ _) (own 40 8 (.slice A4 (N.E.length + 1) a4) (N.E.length + 1) (EL Z.E)) ?_ (e := by rw [hZL])
  refine Ws ?_
  refine Zla (cs := ndLL true (.slice A4 (N.E.length + 1) a4) (.slice B N.K.length e) (.slice C N.D.length f)) ?_ (hl := by rfl)
  refine Ws ?_
  refine Zcr hsp ?_ (hpre := by exact fun w' hw' => ⟨by rw [hZE]; exact rdw_own (v := .slice A4 (N.E.length + 1) a4) Wp w' hw', by rw [hZK]; exact rdw_own (v := .slice B N.K.length e) Wp w' hw', by rw [hZD]; exact rdw_own (v := .slice C N.D.length f) Wp w' hw'⟩)
  rintro r5 H5 ⟨VZ, hVZ, hWZ, rfl⟩
  refine Wap ?_
  (refine Tri.shape (e := 125) (size := 4) (v := r5) Wp ?_; rintro ⟨AZ, cz, rfl⟩)
  rw [hsq] at hVZ
  rw [hsq]
  refine Ws ?_
  rw [hin, hdk]
  exact Zfn [blk pv 146 (viewL d (giN v a).1), DSK d (giN v a).1.S, own 125 4 (.slice AZ VZ.length cz) VZ.length (NDL true VZ), manyRd (RDS VZ (splitN true Z))] (hq := by exact ⟨AZ, cz, VZ, rfl, hVZ, hWZ, rfl⟩)
set_option maxHeartbeats 8000000 in
theorem insert_step (pv d : Nat) (v : VS) (h : Nat) (a : Int) (x : ENT) (hv : v.ok) (hx : entR x) (hh : h ≤ 1000) (hG : inG (h + 2) v a x)
    (ih : insertT pv d (giN v a).1 (h + 1) ((rdN v.S a false).D.getD (childN (rdN v.S a false).K x.key) 0) x) : insertT pv d v (h + 2) a x := by
  refine Gv.Spec.of (fun w h0 hw => ?_)
  refine Calls.enter Tryz.func71 rfl rfl rfl hw ?_
  simp only [argSlots]
  refine Wap ?_
  rw [inG] at hG
  obtain ⟨⟨ha, hl, he, hlf, hok, hE, hD, hgi⟩, _, hG'⟩ := hG
  have hG' := hG' (Nat.succ_ne_zero h)
  have hd1 : decide (h + 1 = 0) = false := rfl
  rw [hd1] at he hlf hok hE hD
  have hin := inN_inner (h := h) (x := x) he hgi
  obtain ⟨R0, hR0⟩ : ∃ R, R = inN (h + 2) v a x := ⟨_, rfl⟩
  rw [← hR0] at hin ⊢
  have hNd := view_Node pv d v a false hv (by omega) ha
  obtain ⟨hE0, hKD⟩ := hok
  obtain ⟨N, hN⟩ : ∃ N, N = rdN v.S a false := ⟨_, rfl⟩
  rw [← hN] at hNd he hlf hE hD hin hE0 hKD ih hG'
  have hE0 : N.E = [] := hE0
  have hKD : N.K.length = N.D.length := hKD
  obtain ⟨hch, _, hVok, hV⟩ := hG'
  obtain ⟨q, hq⟩ : ∃ q, q = childN N.K x.key := ⟨_, rfl⟩
  rw [← hq] at hch hVok hV hin ih
  obtain ⟨kd, hkd⟩ : ∃ kd, kd = N.D.getD q 0 := ⟨_, rfl⟩
  rw [← hkd] at hVok hV hin ih
  have hND : (NL N.D)[q]? = some (.int .i64 kd) := by
    rw [nl_get, hkd, List.getD_eq_getElem?_getD, List.getElem?_eq_getElem (show q < N.D.length by omega)]; rfl
  have hgS := giN_S v a
  have hdk : DSK d v.S = DSK d (giN v a).1.S := by rw [hgS]
  have hgv := view_give pv d v a hv
  rw [insertT] at ih
  obtain ⟨V, hVd⟩ : ∃ V, V = inN (h + 1) (giN v a).1 kd x := ⟨_, rfl⟩
  rw [← hVd] at ih hVok hV hin
  refine Ws ?_
  (refine Wbx ?_; intro b7)
  refine Ws ?_
  refine Zz 20 false ?_ (hi := by exact decide_eq_false (by omega))
  refine Zcs hNd ?_
  rintro r1 H1 ⟨A, c, B, e, C, f, rfl, rfl⟩
  refine Wap ?_
  refine Ws ?_
  refine Zal fun b10 => ?_
  refine Ws ?_
  refine ZSa (ys := ndLL N.leaf (.slice A N.E.length c) (.slice B N.K.length e) (.slice C N.D.length f)) ?_ (h1 := by exact ndLL_one N.leaf A B C _ c _ e _ f)
  refine Ws ?_
  refine Zz 25 false ?_ (hi := by rw [he]; rfl)
  refine Ws ?_
  refine Zd hgv ?_
  refine Ws ?_
  refine Zz 31 false ?_ (hi := by rw [hgi]; rfl)
  refine Ws ?_
  refine Zz 34 false ?_ (hi := by exact decide_eq_false (by omega))
  refine Ws ?_
  refine Zla (cs := ndLL N.leaf (.slice A N.E.length c) (.slice B N.K.length e) (.slice C N.D.length f)) ?_ (hl := by rfl)
  refine Ws ?_
  refine Zlg ?_ (hv := by exact key_cells x) (hl := by rfl)
  refine Ws ?_
  have hcd := tree_child N.leaf (.slice A N.E.length c) (.slice B N.K.length e) (.slice C N.D.length f) N.K x.key (by omega)
  rw [← hq] at hcd
  refine Zcv hcd ?_ (hpre := by exact rdw_own (v := .slice B N.K.length e) Wp)
  have hz1 : ((h + 1 : Nat) : Int) = ((h + 2 : Nat) : Int) - 1 := by omega
  rw [hz1] at ih
  have hql : q < N.D.length := by omega
  have hND' : (NL N.D)[q * 1]? = some (.int .i64 kd) := by rw [Nat.mul_one]; exact hND
  rw [hdk]
  refine Ws ?_
  refine Wm [blk b10 125 (ndLL N.leaf (.slice A N.E.length c) (.slice B N.K.length e) (.slice C N.D.length f)), own 3 1 (.slice C N.D.length f) N.D.length (NL N.D), blk b7 40 (entL x)] ?_
  refine Wq [0, 1, 2, 3] ?_
  refine Zm 4 (h := fun _ _ x => by exact Zix (j := q) x (hj := by rfl) (hlt := by exact hql)) (k := ?_)
  refine Zm 5 (h := fun _ _ x => by exact Zlo (j := q * 1) x (hv := by exact hND')) (k := ?_)
  refine Wq [6, 7] ?_
  ((first | ((with_reducible apply TriM.q 8); (case ho => rfl); (case hg => rfl)) | ((with_reducible apply TriM.qYes 8); (case ho => rfl); (case hg => rfl); (case hyl => rfl); (case hb => with_reducible rfl))); (case hB => kernel_rfl); (case hd => rfl); (case hn => rfl); (case h => (intro F K hK; (try dsimp only [List.cons_append, List.nil_append]); ((with_reducible apply o_loadAll (cs := entL x)); (case hx => rfl); (case p => exact (by (first | ((repeat (first | with_reducible exact Pull.head | with_reducible apply Pull.tail)); done) | (repeat (first | exact Pull.head | apply Pull.tail))))); (case hl => rfl); (case hn => rfl)); exact hK)))
  refine ZA 9 ?_
  ((with_reducible apply o_callS (hs := ih)); (case hargs => (repeat (first | exact evs.nil | (apply evs.cons; (case a => rfl))))); (case p => (repeat (first | exact Pulls.nil | (apply Pulls.cons; (case a => (first | ((repeat (first | with_reducible exact Gv.Pull.head | with_reducible apply Gv.Pull.tail)); done) | (repeat (first | exact Gv.Pull.head | apply Gv.Pull.tail)))))))); (case hn => rfl))
  rintro r3 H3 ⟨AV, cv, VV, rfl, hVl, hVW, rfl⟩
  refine Wap ?_
  refine Zw ?_
  refine Wq [10, 11, 12, 13, 14] ?_
  refine ZE ?_
  refine Ws ?_
  by_cases hz : V.2.2 = 0
  · rw [if_pos hz] at hin
    obtain ⟨hV1, hV2, hV3, hV4⟩ := hV hz
    have hrp := view_replaced pv d V.1 (decide (h + 1 = 1)) A c B e C f ⟨N.E, N.K, N.D⟩ q 1 AV cv VV V.2.1 hVok hV3 hV2 hVl hVW hV4 ⟨hE0, hKD⟩ hD hql hch (by omega) hV1
    rw [← hin] at hrp
    have hc1 : ((1 : Nat) : Int) = 1 := rfl
    rw [hc1] at hrp
    dsimp only at hrp
    refine Zz 71 false ?_ (hi := by rw [hz]; rfl)
    refine Zat (blk b10 _ _) (blk b10 125 (ndLL false (.slice A N.E.length c) (.slice B N.K.length e) (.slice C N.D.length f))) ?_ (e := by rw [hlf])
    refine Ws ?_
    refine Zla (cs := ndLL false (.slice A N.E.length c) (.slice B N.K.length e) (.slice C N.D.length f)) ?_ (hl := by rfl)
    refine Ws ?_
    refine Zcs hrp ?_
    rintro r4 H4 ⟨AZ, cz, VZ, rfl, hZl, hZW, rfl⟩
    refine Wap ?_
    refine Ws ?_
    exact Zfn [blk pv 146 (viewL d R0.1), DSK d R0.1.S, own 125 4 (.slice AZ VZ.length cz) VZ.length (NDL false VZ), manyRd (RDS VZ R0.2.1)] (hq := by exact ⟨AZ, cz, VZ, rfl, hZl, hZW, rfl⟩)
  · rw [if_neg hz] at hin
    refine Zz 71 true ?_ (hi := by rw [decide_eq_true]; omega)
    refine Ws ?_
    (with_reducible apply Tri.ownNil 125 4)
    (with_reducible apply Tri.noneM)
    rw [hin]
    exact Zfn [blk pv 146 (viewL d V.1), DSK d V.1.S, own 125 4 (.slice none 0 0) 0 [], manyRd []] (hq := by exact ⟨none, 0, [], rfl, rfl, (fun v hv => by cases hv), rfl⟩)
/-- an entry more, below -/
theorem view_insert (pv d : Nat) (x : ENT) (hx : entR x) : ∀ (h : Nat) (v : VS) (a : Int), v.ok → h ≤ 1000 → inG h v a x → insertT pv d v h a x
  | 0, v, a, _, _, hG => hG.elim
  | 1, v, a, hv, _, hG => insert_leaf pv d v a x hv hx hG
  | h + 2, v, a, hv, hh, hG => insert_step pv d v h a x hv hx (by omega) hG (view_insert pv d x hx (h + 1) _ _ (giN_ok hv a) (by omega) (hG.2.2 (Nat.succ_ne_zero h)).2.1)
end Go.Proofs.YtcglabmlhljkmaaGreat
end
section
/- tree: meets; a view's Load: the walk. -/
namespace Go.Proofs.YtcglabmlhljkmaaGreat
open Go Go.RowKit Go.Gv
set_option linter.unusedVariables false
set_option linter.unusedSimpArgs false

set_option maxHeartbeats 4000000 in
theorem tree_meets (a b : ENT) : SpecR Tryz.prog 57 #[entV a, entV b] (fun _ => True) (fun r H' => r = .bool (meetsE a b) ∧ H' = []) := by
  refine SpecR.of (fun w _ => ?_)
  refine Calls.enter Tryz.func57 rfl rfl rfl (St.rebase w) ?_
  simp only [argSlots]
  have hm : meetsE a b = (decide (a.key.1 = b.key.1) && (decide (a.key.2 ≤ b.fin) && decide (b.key.2 ≤ a.fin))) := rfl
  refine Ws ?_
  (refine Wbx ?_; intro b2)
  refine Ws ?_
  (refine Wbx ?_; intro b3)
  refine Ws ?_
  by_cases h1 : a.key.1 = b.key.1
  · rw [decide_eq_true h1, Bool.true_and] at hm
    refine Zz 12 true ?_ (hi := by exact decide_eq_true h1)
    refine Ws ?_
    by_cases h2 : a.key.2 ≤ b.fin
    · rw [decide_eq_true h2, Bool.true_and] at hm
      refine Zz 20 true ?_ (hi := by exact decide_eq_true h2)
      refine Ws ?_
      exact Zfr (hq := by simp only [tupled]; (rw [hm]))
    · rw [decide_eq_false h2, Bool.false_and] at hm
      refine Zz 20 false ?_ (hi := by exact decide_eq_false h2)
      refine Ws ?_
      exact Zfr (hq := by simp only [tupled]; (rw [hm]))
  · rw [decide_eq_false h1, Bool.false_and] at hm
    refine Zz 12 false ?_ (hi := by exact decide_eq_false h1)
    refine Ws ?_
    exact Zfr (hq := by simp only [tupled]; (rw [hm]))
theorem rd_noneT (w : World) : RdW w (.slice none 0 0) 0 [] := ⟨none, 0, rfl, ⟨by simp, by decide⟩, fun j u h => by simp at h⟩
end Go.Proofs.YtcglabmlhljkmaaGreat
end
section
/- tree: an entry more: the walk. -/
namespace Go.Proofs.YtcglabmlhljkmaaGreat
open Go Go.RowKit Go.Gv
set_option linter.unusedVariables false
set_option linter.unusedSimpArgs false

theorem keyS_eq (a b : KEY) : (decide (a = b) = true ↔ keyL a = keyL b) := by
  rw [decide_eq_true_iff]
  constructor
  · rintro rfl; rfl
  · intro h
    simp only [keyL, List.cons.injEq, Value.int.injEq, true_and, and_true] at h
    exact Prod.ext h.1 h.2
theorem keyS_alk (a : KEY) : Alk [.int .i64 0, .int .i64 0] (keyL a) := ⟨rfl, rfl, trivial⟩
set_option maxRecDepth 4000 in
set_option maxHeartbeats 16000000 in
theorem view_Insert (pv d : Nat) (v : VS) (a : Int) (h : Nat) (x : ENT) (hv : v.ok) (hG : iG v a h x) :
    Gv.Spec Tryz.prog 24 #[.pointer (some ⟨pv, 0, none⟩), rootV a (h : Int), entV x] [blk pv 146 (viewL d v), DSK d v.S]
    (fun r H' => r = .tuple #[.agg #[.int .i64 (iN v a h x).2.1.1, .int .i64 ((iN v a h x).2.1.2 : Int)], .int .i64 ((iN v a h x).2.2 : Int)]
      ∧ H' = [blk pv 146 (viewL d (iN v a h x).1), DSK d (iN v a h x).1.S]) := by
  refine Gv.Spec.of (fun w h0 hw => ?_)
  refine Calls.enter Tryz.func24 rfl rfl rfl hw ?_
  simp only [argSlots]
  refine Wap ?_
  obtain ⟨⟨hh, hg, hEl, hWl, hxo, hxR⟩, hG2⟩ := hG
  obtain ⟨R0, hR0⟩ : ∃ R, R = iN v a h x := ⟨_, rfl⟩
  rw [← hR0]
  rw [iN] at hR0
  have hall := tree_All pv d v hv (by omega) h a hh hg (by omega)
  obtain ⟨E, hE⟩ : ∃ E, E = wkE v.S h a := ⟨_, rfl⟩
  rw [← hE] at hR0 hall hEl hG2
  refine Ws ?_
  (refine Wbx ?_; intro b4)
  refine Ws ?_
  (refine Wbx ?_; intro b5)
  refine Ws ?_
  refine Zal fun b6 => ?_
  refine Ws ?_
  refine Zla (cs := rootL a (h : Int)) ?_ (hl := by rfl)
  refine Ws ?_
  refine Zcv (view_may pv a h hh) ?_
  refine Ws ?_
  refine Zz 20 false ?_
  refine Ws ?_
  refine Zla (cs := entL x) ?_ (hl := by rfl)
  refine Ws ?_
  (refine Zli (ys := entL x) ?_; intro vl)
  (refine Tri.shape (e := 40) (size := 8) (v := vl) Wp ?_; rintro ⟨Av, cv, rfl⟩)
  refine Ws ?_
  refine Zbu (ys := ndLL true (.slice Av 1 cv) (.slice none 0 0) (.slice none 0 0)) ?_
  refine Ws ?_
  refine Zat (own 40 8 (.slice Av 1 cv) _ _) (own 40 8 (.slice Av 1 cv) [x].length (EL [x])) ?_
  refine Zcv (node_Right true (.slice Av 1 cv) (.slice none 0 0) (.slice none 0 0) [x] [] []) ?_ (hpre := by exact fun w' hw' => ⟨rdw_own (v := .slice Av 1 cv) Wp w' hw', rd_noneT _, rd_noneT _⟩)
  refine Zz 26 true ?_ (hi := by exact one_right hxo)
  refine Ws ?_
  refine Zz 27 false ?_
  refine Ws ?_
  refine Zla (cs := rootL a (h : Int)) ?_ (hl := by rfl)
  refine Ws ?_
  refine Zcs hall ?_
  rintro r1 H1 ⟨A, c, rfl, rfl⟩
  refine Wap ?_
  refine Ws ?_
  refine Zz 36 false ?_
  refine Ws ?_
  have hEl8 : (EL E).length = E.length * 8 := EL_lens E rfl
  have hk0 : (E.take 0).any (fun y => decide (y.key = x.key)) = false := by rw [List.take_zero]; rfl
  have hm0 : (E.take 0).any (fun y => meetsE x y) = false := by rw [List.take_zero]; rfl
  (refine Wl (α := Σ' (i : Nat), i ≤ E.length ∧ (E.take i).any (fun y => decide (y.key = x.key)) = false) (fun z => E.length - z.1) (fun z => [(0, .pointer (some ⟨pv, 0, none⟩)), (4, .pointer (some ⟨b4, 0, none⟩)), (5, .pointer (some ⟨b5, 0, none⟩)), (6, .pointer (some ⟨b6, 0, none⟩)), (9, .slice A E.length c), (39, .slice A E.length c), (40, .int .i64 (E.length : Int)), (41, .int .i64 (z.1 : Int))]) (fun z => [blk b4 43 (rootL a (h : Int)), blk b5 40 (entL x), blk b6 43 [.int .i64 0, .int .i64 0], blk pv 146 (viewL d v), DSK d v.S, own 40 8 (.slice A E.length c) E.length (EL E), Ex h0]) ⟨0, Nat.zero_le _, hk0⟩ ?_; rintro ⟨i, hi, hno⟩ mx hmx; (try dsimp only at hmx ⊢))
  refine Ws ?_
  (refine Wcd ?_ ?_ <;> intro hc)
  · have hil : i < E.length := by omega
    have hil' : i + 1 ≤ E.length := hil
    obtain ⟨y, hy⟩ : ∃ y, y = E.getD i ent0 := ⟨_, rfl⟩
    have hE8 : ((EL E).drop (i * 8)).take 8 = entL y := by rw [hy]; exact EL_eight E i hil
    have hat := any_take (fun y : ENT => decide (y.key = x.key)) E ent0 i hil
    rw [← hy, hno, Bool.false_or] at hat
    refine Ws ?_
    refine Zix (j := i) ?_ (hj := by rfl) (hlt := by exact hil)
    refine Ws ?_
    refine Zlq (ys := entL y) ?_ (hv := by exact hE8) (hl := by rfl)
    refine Ws ?_
    refine Zal fun b12 => ?_
    refine Ws ?_
    refine ZSa (ys := entL y) ?_ (h1 := by exact entL_one5 y)
    refine Ws ?_
    refine Zlg ?_ (hv := by exact key_cells y) (hl := by rfl)
    refine Ws ?_
    refine Zlg ?_ (hv := by exact key_cells x) (hl := by rfl)
    refine Ws ?_
    refine ZoeqlA (r := decide (y.key = x.key)) ?_ (hax := by exact keyS_alk y.key) (hay := by exact keyS_alk x.key) (hr := by exact keyS_eq y.key x.key)
    refine Ws ?_
    by_cases hk : y.key = x.key
    · have hany : E.any (fun y => decide (y.key = x.key)) = true := any_of ent0 hil (by rw [← hy]; exact decide_eq_true hk)
      have hchk : chkE E x = 11 := by rw [chkE, if_pos hany]
      rw [hchk, if_pos (by decide)] at hR0
      refine Zz 49 true ?_ (hi := by exact decide_eq_true hk)
      refine Ws ?_
      refine ZSa (ys := [.int .i64 0, .int .i64 0]) ?_ (h1 := by exact two_int _ _)
      refine Ws ?_
      rw [hR0]
      exact Zfn [blk pv 146 (viewL d v), DSK d v.S] (h := ResL.cons (Zra (rfl : [Value.int .i64 0, Value.int .i64 0].length = 2)) (ResL.cons (Res1.tmp rfl) (ResL.nil))) (hq := by exact ⟨rfl, rfl⟩)
    · have hno' : (E.take (i + 1)).any (fun y => decide (y.key = x.key)) = false := by rw [hat]; exact decide_eq_false hk
      refine Zz 49 false ?_ (hi := by exact decide_eq_false hk)
      refine Ws ?_
      refine Zi 41 ((i + 1 : Nat) : Int) ?_ (hi := by omega)
      exact Zag ⟨i + 1, hil', hno'⟩
  · have hil : i = E.length := by omega
    rw [hil, List.take_length] at hno
    refine Ws ?_
    (refine Wl (α := Σ' (i : Nat), i ≤ E.length ∧ (E.take i).any (fun y => meetsE x y) = false) (fun z => E.length - z.1) (fun z => [(0, .pointer (some ⟨pv, 0, none⟩)), (4, .pointer (some ⟨b4, 0, none⟩)), (5, .pointer (some ⟨b5, 0, none⟩)), (6, .pointer (some ⟨b6, 0, none⟩)), (52, .slice A E.length c), (53, .int .i64 (E.length : Int)), (54, .int .i64 (z.1 : Int))]) (fun z => [blk b4 43 (rootL a (h : Int)), blk b5 40 (entL x), blk b6 43 [.int .i64 0, .int .i64 0], blk pv 146 (viewL d v), DSK d v.S, own 40 8 (.slice A E.length c) E.length (EL E), Ex h0]) ⟨0, Nat.zero_le _, hm0⟩ ?_; rintro ⟨k, hk, hmo⟩ mx hmx; (try dsimp only at hmx ⊢))
    refine Ws ?_
    (refine Wcd ?_ ?_ <;> intro hc2)
    · have hkl : k < E.length := by omega
      have hkl' : k + 1 ≤ E.length := hkl
      obtain ⟨y, hy⟩ : ∃ y, y = E.getD k ent0 := ⟨_, rfl⟩
      have hE8 : ((EL E).drop (k * 8)).take 8 = entL y := by rw [hy]; exact EL_eight E k hkl
      have hat := any_take (fun y : ENT => meetsE x y) E ent0 k hkl
      rw [← hy, hmo, Bool.false_or] at hat
      refine Ws ?_
      refine Zix (j := k) ?_ (hj := by rfl) (hlt := by exact hkl)
      refine Ws ?_
      refine Zlq (ys := entL y) ?_ (hv := by exact hE8) (hl := by rfl)
      refine Ws ?_
      refine Zal fun b14 => ?_
      refine Ws ?_
      refine ZSa (ys := entL y) ?_ (h1 := by exact entL_one5 y)
      refine Ws ?_
      refine Zla (cs := entL x) ?_ (hl := by rfl)
      refine Ws ?_
      refine Zla (cs := entL y) ?_ (hl := by rfl)
      refine Ws ?_
      refine Zcv (tree_meets x y) ?_
      refine Ws ?_
      cases hq : meetsE x y with
      | true =>
        have hany : E.any (fun y => meetsE x y) = true := any_of ent0 hkl (by rw [← hy]; exact hq)
        have hchk : chkE E x = 9 := by rw [chkE, if_neg (by rw [hno]; simp), if_pos hany]
        rw [hchk, if_pos (by decide)] at hR0
        refine Ws ?_
        refine ZSa (ys := [.int .i64 0, .int .i64 0]) ?_ (h1 := by exact two_int _ _)
        refine Ws ?_
        rw [hR0]
        exact Zfn [blk pv 146 (viewL d v), DSK d v.S] (h := ResL.cons (Zra (rfl : [Value.int .i64 0, Value.int .i64 0].length = 2)) (ResL.cons (Res1.tmp rfl) (ResL.nil))) (hq := by exact ⟨rfl, rfl⟩)
      | false =>
        have hmo' : (E.take (k + 1)).any (fun y => meetsE x y) = false := by rw [hat]; exact hq
        refine Ws ?_
        refine Zi 54 ((k + 1 : Nat) : Int) ?_ (hi := by omega)
        exact Zag ⟨k + 1, hkl', hmo'⟩
    · have hkl : k = E.length := by omega
      rw [hkl, List.take_length] at hmo
      have hchk : chkE E x = 0 := by rw [chkE, if_neg (by rw [hno]; simp), if_neg (by rw [hmo]; simp)]
      rw [hchk, if_neg (by decide)] at hR0
      obtain ⟨hGr, hGi⟩ := hG2 hchk
      refine Ws ?_
      by_cases h00 : h = 0
      · rw [if_pos h00] at hR0
        have hGr := hGr h00
        refine Zz 65 true ?_ (hi := by rw [decide_eq_true]; omega)
        refine Ws ?_
        refine Zla (cs := entL x) ?_ (hl := by rfl)
        refine Ws ?_
        (refine Zli (ys := entL x) ?_; intro v68)
        (refine Tri.shape (e := 40) (size := 8) (v := v68) Wp ?_; rintro ⟨A6, c6, rfl⟩)
        refine Ws ?_
        refine Zbu (ys := ndLL true (.slice A6 1 c6) (.slice none 0 0) (.slice none 0 0)) ?_
        refine Ws ?_
        (refine Zli (ys := ndLL true (.slice A6 1 c6) (.slice none 0 0) (.slice none 0 0)) ?_; intro v70)
        (refine Tri.shape (e := 125) (size := 4) (v := v70) Wp ?_; rintro ⟨A7, c7, rfl⟩)
        (with_reducible apply Tri.noneM)
        (with_reducible apply Tri.ownNil 38 2)
        (with_reducible apply Tri.ownNil 3 1)
        refine Tri.joinS (l := []) (e := 40) (size := 8) (v := .slice A6 1 c6) Wp Wp ?_
        refine Tri.joinS (l := [] ++ [_]) (e := 38) (size := 2) (v := .slice none 0 0) Wp Wp ?_
        refine Tri.joinS (l := [] ++ [_] ++ [_]) (e := 3) (size := 1) (v := .slice none 0 0) Wp Wp ?_
        obtain ⟨V4, hV4⟩ : ∃ V4, V4 = [((Value.slice A6 1 c6 : Value), (Value.slice none 0 0 : Value), (Value.slice none 0 0 : Value))] := ⟨_, rfl⟩
        have hl4 : V4.length = 1 := by rw [hV4]; rfl
        have hn4 : ndLL true (.slice A6 1 c6) (.slice none 0 0) (.slice none 0 0) = NDL true V4 := by rw [hV4]; rfl
        have hmr : [] ++ [((.slice A6 1 c6 : Value), 1, entL x)] ++ [((.slice none 0 0 : Value), 0, [])] ++ [((.slice none 0 0 : Value), 0, [])] = RDS V4 [⟨[x], [], []⟩] := by rw [hV4]; rfl
        have hW4 : shp V4 := fun v hv => by
          rw [hV4] at hv
          rw [List.mem_singleton.1 hv]; exact ⟨_, _, _, _, _, _, _, _, _, rfl⟩
        have hR4 : ∀ y ∈ [(⟨[x], [], []⟩ : ND3)], ∀ e ∈ y.E, entR e := fun y hy e he => by
          rw [List.mem_singleton.1 hy] at he
          rw [List.mem_singleton.1 he]; exact hxR
        have hro := view_root pv d 1 v true A7 c7 V4 [⟨[x], [], []⟩] 1 hGr hv (by omega) (by show 1 ≤ 1000; decide) (by decide) hl4 hW4 hR4
        rw [← hR0] at hro
        have hc1 : ((1 : Nat) : Int) = 1 := rfl
        rw [hl4, hc1] at hro
        refine Zat (manyRd ([] ++ [_] ++ [_] ++ [_])) (manyRd (RDS V4 [⟨[x], [], []⟩])) ?_ (e := by rw [← hmr])
        refine Zat (own 125 4 (.slice A7 _ c7) _ _) (own 125 4 (.slice A7 1 c7) 1 (NDL true V4)) ?_ (e := by rw [hn4])
        refine Ws ?_
        refine Zd hro ?_
        refine Ws ?_
        refine ZSa (ys := [.int .i64 R0.2.1.1, .int .i64 (R0.2.1.2 : Int)]) ?_ (h1 := by exact two_int _ _)
        refine Ws ?_
        exact Zfn [blk pv 146 (viewL d R0.1), DSK d R0.1.S] (h := ResL.cons (Zra (rfl : [Value.int .i64 R0.2.1.1, Value.int .i64 (R0.2.1.2 : Int)].length = 2)) (ResL.cons (Res1.tmp rfl) (ResL.nil))) (hq := by exact ⟨rfl, rfl⟩)
      · rw [if_neg h00] at hR0
        obtain ⟨hiG, hVok, hV⟩ := hGi h00
        refine Zz 65 false ?_ (hi := by exact decide_eq_false (by omega))
        refine Ws ?_
        have hins := view_insert pv d x hxR h v a hv (by omega) hiG
        rw [insertT] at hins
        obtain ⟨V, hVd⟩ : ∃ V, V = inN h v a x := ⟨_, rfl⟩
        rw [← hVd] at hins hVok hV hR0
        refine Zla (cs := entL x) ?_ (hl := by rfl)
        refine Ws ?_
        refine Zcs hins ?_
        rintro r3 H3 ⟨A7, c7, VV, rfl, hVl, hVW, rfl⟩
        refine Wap ?_
        refine Ws ?_
        by_cases hz : V.2.2 = 0
        · rw [if_pos hz] at hR0
          obtain ⟨hv1, hv2, hv3, hv4⟩ := hV hz
          have hro := view_root pv d 1 V.1 (decide (h = 1)) A7 c7 VV V.2.1 h hv4 hVok (by omega) hv2 (by omega) hVl hVW hv3
          rw [← hR0] at hro
          refine Zz 85 false ?_ (hi := by rw [hz]; rfl)
          refine Ws ?_
          refine Zd hro ?_
          refine Ws ?_
          refine ZSa (ys := [.int .i64 R0.2.1.1, .int .i64 (R0.2.1.2 : Int)]) ?_ (h1 := by exact two_int _ _)
          refine Ws ?_
          exact Zfn [blk pv 146 (viewL d R0.1), DSK d R0.1.S] (h := ResL.cons (Zra (rfl : [Value.int .i64 R0.2.1.1, Value.int .i64 (R0.2.1.2 : Int)].length = 2)) (ResL.cons (Res1.tmp rfl) (ResL.nil))) (hq := by exact ⟨rfl, rfl⟩)
        · rw [if_neg hz] at hR0
          refine Zz 85 true ?_ (hi := by rw [decide_eq_true]; omega)
          refine Ws ?_
          refine ZSa (ys := [.int .i64 0, .int .i64 0]) ?_ (h1 := by exact two_int _ _)
          refine Ws ?_
          rw [hR0]
          exact Zfn [blk pv 146 (viewL d V.1), DSK d V.1.S] (h := ResL.cons (Zra (rfl : [Value.int .i64 0, Value.int .i64 0].length = 2)) (ResL.cons (Res1.tmp rfl) (ResL.nil))) (hq := by exact ⟨rfl, rfl⟩)
end Go.Proofs.YtcglabmlhljkmaaGreat
end
section
/- txn: what ends changes; an entry alone; does it meet others: the walk. -/
namespace Go.Proofs.YtcglabmlhljkmaaGreat
open Go Go.RowKit Go.Gv
set_option linter.unusedVariables false
set_option linter.unusedSimpArgs false

theorem viewL_mp (d : Nat) (v : VS) : (viewL d v)[0 + 258 + 0]? = some (.int .i64 v.m.p) := viewL_at 2
set_option maxHeartbeats 8000000 in
theorem view_SetMap (pv d : Nat) (v : VS) (m : BM) (hv : v.ok) (hm : m.u.length = 512) (hr : rightM m = true) (hp : m.p = v.m.p) :
    Gv.Spec Tryz.prog 22 #[.pointer (some ⟨pv, 0, none⟩), bmV m] [blk pv 146 (viewL d v)]
    (fun r H' => r = .tuple #[] ∧ H' = [blk pv 146 (viewL d ⟨v.S, v.gen, m, v.old⟩)]) := by
  refine Gv.Spec.of (fun w h0 hw => ?_)
  refine Calls.enter Tryz.func22 rfl rfl rfl hw ?_
  simp only [argSlots]
  refine Wap ?_
  refine Ws ?_
  (refine Wbx ?_; intro b3)
  refine Ws ?_
  refine Wm [blk b3 60 (bmL m), blk pv 146 (viewL d v)] ?_
  refine Wq [0, 1, 2] ?_
  refine ZMb 6 true ?_
  refine Zm 3 (h := fun _ _ x => by exact Zla (cs := bmL m) x (hl := by exact bmL_len hm)) (k := ?_)
  refine Zm 4 (h := fun _ _ x => by exact Zcv (bm_Right m hm) x) (k := ?_)
  refine Wq [5, 6] ?_
  refine ZMb 10 true ?_ (hi := by exact hr)
  refine Wq [7] ?_
  refine Zm 8 (h := fun _ _ x => by exact Zl (v := .int .i64 m.p) x) (k := ?_)
  refine Wq [9, 10, 11, 12] ?_
  refine Zm 13 (h := fun _ _ x => by exact Zl x (hv := by exact viewL_mp d v)) (k := ?_)
  refine Wq [14, 15] ?_
  refine ZMb 19 true ?_ (hi := by exact decide_eq_true hp)
  refine ZE ?_
  refine Ws ?_
  refine Zla (cs := bmL m) ?_ (hl := by exact bmL_len hm)
  refine Ws ?_
  refine ZSg (ys := bmL m) ?_ (hl := by exact bmL_len hm) (h1 := by exact bmL_one _) (hi := by rw [viewL_len hv]; omega)
  refine Zat (blk pv _ _) (blk pv 146 (viewL d ⟨v.S, v.gen, m, v.old⟩)) ?_ (e := by rw [viewL_set hv m v.S])
  refine Ws ?_
  exact Zfn [blk pv 146 (viewL d ⟨v.S, v.gen, m, v.old⟩)] (hq := by exact ⟨rfl, rfl⟩)
end Go.Proofs.YtcglabmlhljkmaaGreat
end
section
/- tree: maps and disks that don't fit: the walk. -/
namespace Go.Proofs.YtcglabmlhljkmaaGreat
open Go Go.RowKit Go.Gv
set_option linter.unusedVariables false
set_option linter.unusedSimpArgs false

set_option maxHeartbeats 8000000 in
theorem view_SetMap_no (pv d : Nat) (v : VS) (m : BM) (hm : m.u.length = 512) (hno : rightM m = false ∨ m.p ≠ v.m.p) :
    Gv.Spec Tryz.prog 22 #[.pointer (some ⟨pv, 0, none⟩), bmV m] [blk pv 146 (viewL d v)]
    (fun r H' => r = .tuple #[] ∧ H' = [blk pv 146 (viewL d v)]) := by
  refine Gv.Spec.of (fun w h0 hw => ?_)
  refine Calls.enter Tryz.func22 rfl rfl rfl hw ?_
  simp only [argSlots]
  refine Wap ?_
  refine Ws ?_
  (refine Wbx ?_; intro b3)
  refine Ws ?_
  refine Wm [blk b3 60 (bmL m), blk pv 146 (viewL d v)] ?_
  refine Wq [0, 1, 2] ?_
  refine ZMb 6 true ?_
  refine Zm 3 (h := fun _ _ qK => by exact Zla (cs := bmL m) qK (hl := by exact bmL_len hm)) (k := ?_)
  refine Zm 4 (h := fun _ _ qK => by exact Zcv (bm_Right m hm) qK) (k := ?_)
  refine Wq [5, 6] ?_
  cases hr : rightM m with
  | false =>
    refine ZMb 10 false ?_
    refine Wq [7, 8, 9, 10, 11, 12, 13, 14, 15] ?_
    refine ZE ?_
    refine Ws ?_
    exact Zfn [blk pv 146 (viewL d v)] (hq := by exact ⟨rfl, rfl⟩)
  | true =>
    have hp : m.p ≠ v.m.p := hno.resolve_left (by rw [hr]; simp)
    refine ZMb 10 true ?_
    refine Wq [7] ?_
    refine Zm 8 (h := fun _ _ qK => by exact Zl (v := .int .i64 m.p) qK) (k := ?_)
    refine Wq [9, 10, 11, 12] ?_
    refine Zm 13 (h := fun _ _ qK => by exact Zl qK (hv := by exact viewL_mp d v)) (k := ?_)
    refine Wq [14, 15] ?_
    refine ZMb 19 false ?_ (hi := by exact decide_eq_false hp)
    refine ZE ?_
    refine Ws ?_
    exact Zfn [blk pv 146 (viewL d v)] (hq := by exact ⟨rfl, rfl⟩)
set_option maxHeartbeats 8000000 in
theorem tree_Open_no (d : Nat) (S : DS) (g : Nat) (m o : BM) (hS : S.ok) (hm : m.u.length = 512) (hml : rightM m = true) (ho : o.u.length = 512) (hol : rightM o = true) (hp : m.p ≠ ((S.A.length / 256 : Nat) : Int)) :
    Gv.Spec Tryz.prog 26 #[tabV, .pointer (some ⟨d, 0, none⟩), .int .u64 (g : Int), bmV m, bmV o] [DSK d S]
    (fun r H' => r = .tuple #[.pointer none, .int .i64 1] ∧ H' = [DSK d S]) := by
  refine Gv.Spec.of (fun w h0 hw => ?_)
  refine Calls.enter Tryz.func26 rfl rfl rfl hw ?_
  simp only [argSlots]
  refine Wap ?_
  refine Ws ?_
  (refine Wbx ?_; intro b5)
  refine Ws ?_
  (refine Wbx ?_; intro b8)
  refine Ws ?_
  (refine Wbx ?_; intro b9)
  refine Ws ?_
  refine Wm [blk b8 60 (bmL m), blk b9 60 (bmL o)] ?_
  refine Wq [0, 1, 2] ?_
  refine ZMb 14 false ?_
  refine Zm 3 (h := fun _ _ qK => by exact Zla (cs := bmL m) qK (hl := by exact bmL_len hm)) (k := ?_)
  refine Zm 4 (h := fun _ _ qK => by exact Zcv (bm_Right m hm) qK) (k := ?_)
  refine Wq [5, 6, 7] ?_
  refine ZMb 19 false ?_ (hi := by rw [hml]; rfl)
  refine Zm 8 (h := fun _ _ qK => by exact Zla (cs := bmL o) qK (hl := by exact bmL_len ho)) (k := ?_)
  refine Zm 9 (h := fun _ _ qK => by exact Zcv (bm_Right o ho) qK) (k := ?_)
  refine Wq [10, 11, 12] ?_
  refine ZMb 24 false ?_ (hi := by rw [hol]; rfl)
  refine Wq [13, 14, 15] ?_
  refine ZAy 16 ?_
  refine Zd (disk_PagesD d S hS) ?_
  refine Zw ?_
  refine Wq [17, 18, 19] ?_
  refine ZMb 31 true ?_ (hi := by exact decide_eq_true hp)
  refine Wq [20, 21, 22, 23, 24, 25] ?_
  refine ZE ?_
  refine Ws ?_
  exact Zfn [DSK d S] (hq := by exact ⟨rfl, rfl⟩)
set_option maxHeartbeats 8000000 in
theorem tree_Open_nil (g : Nat) (m o : BM) : SpecR Tryz.prog 26 #[tabV, .pointer none, .int .u64 (g : Int), bmV m, bmV o] (fun _ => True)
    (fun r H' => r = .tuple #[.pointer none, .int .i64 1] ∧ H' = []) := by
  refine SpecR.of (fun w _ => ?_)
  refine Calls.enter Tryz.func26 rfl rfl rfl (St.rebase w) ?_
  simp only [argSlots]
  refine Ws ?_
  (refine Wbx ?_; intro b5)
  refine Ws ?_
  (refine Wbx ?_; intro b8)
  refine Ws ?_
  (refine Wbx ?_; intro b9)
  refine Ws ?_
  refine Wm [] ?_
  refine Wq [0, 1, 2] ?_
  refine ZMb 14 true ?_
  refine Wq [3, 4, 5, 6, 7, 8, 9, 10, 11, 12, 13, 14, 15, 16, 17, 18, 19, 20, 21, 22, 23, 24, 25] ?_
  refine ZE ?_
  refine Ws ?_
  refine Zfn [] (hq := ?_)
  exact ⟨rfl, rfl⟩
end Go.Proofs.YtcglabmlhljkmaaGreat
end
section
/- tree: an entry that is looked for, in plain terms. -/
namespace Go.Proofs.YtcglabmlhljkmaaGreat
open Go Go.RowKit Go.Gv
set_option linter.unusedVariables false
set_option linter.unusedSimpArgs false

/-- an entry that is looked for among others, from some place on -/
def fdE (E : List ENT) (k : KEY) : ENT × Nat := match E.find? (fun y => decide (y.key = k)) with
  | some y => (y, 0)
  | none => (ent0, 10)
/-- an entry that is looked for -/
def fdN (S : DS) : Nat → Int → KEY → ENT × Nat
  | 0, _, _ => (ent0, 10)
  | h + 1, a, k => if h = 0 then fdE (rdN S a true).E k else fdN S h ((rdN S a false).D.getD (childN (rdN S a false).K k) 0) k
def fdG (S : DS) : Nat → Int → KEY → Prop
  | 0, _, _ => True
  | h + 1, a, k => (-1000000 ≤ a ∧ a ≤ 1000000) ∧ (rdN S a (decide (h = 0))).e = 0 ∧ (rdN S a (decide (h = 0))).E.length ≤ 1000 ∧ (rdN S a (decide (h = 0))).K.length ≤ 1000 ∧
    (h ≠ 0 → childN (rdN S a false).K k < (rdN S a false).D.length ∧ fdG S h ((rdN S a false).D.getD (childN (rdN S a false).K k) 0) k)
theorem fdE_some {E : List ENT} {k : KEY} {i : Nat} (hno : (E.take i).any (fun y => decide (y.key = k)) = false) (hi : i < E.length) (hk : (E.getD i ent0).key = k) : fdE E k = (E.getD i ent0, 0) := by
  have e : E = E.take i ++ E.getD i ent0 :: E.drop (i + 1) := by
    rw [List.getD_eq_getElem?_getD, List.getElem?_eq_getElem hi, Option.getD_some, List.getElem_cons_drop, List.take_append_drop]
  have hn : (E.take i).find? (fun y => decide (y.key = k)) = none := by
    rw [List.find?_eq_none]
    intro y hy
    have := List.any_eq_false.1 hno y hy
    exact this
  have hf : E.find? (fun y => decide (y.key = k)) = some (E.getD i ent0) := by
    conv => lhs; rw [e]
    rw [List.find?_append, hn, List.find?_cons]
    simp only [hk, decide_true, Option.none_or]
  rw [fdE, hf]
theorem fdE_none {E : List ENT} {k : KEY} (hno : E.any (fun y => decide (y.key = k)) = false) : fdE E k = (ent0, 10) := by
  have hn : E.find? (fun y => decide (y.key = k)) = none := by
    rw [List.find?_eq_none]
    intro y hy
    exact List.any_eq_false.1 hno y hy
  rw [fdE, hn]
end Go.Proofs.YtcglabmlhljkmaaGreat
end
section
/- tree: a disk that is filled; one entry, in plain terms. -/
namespace Go.Proofs.YtcglabmlhljkmaaGreat
open Go Go.RowKit Go.Gv
set_option linter.unusedVariables false
set_option linter.unusedSimpArgs false

/-- leaves of four at least -/
def mu4 (h : Nat) : Nat := if h = 1 then 4 else 1
theorem mu4_lim (h : Nat) : mu4 (h + 1) ≤ limN h := by
  rw [mu4, limN]
  by_cases c : h = 0
  · rw [if_pos (by omega), if_pos c]; decide
  · rw [if_neg (by omega), if_neg c]; decide
theorem low_sum {S : DS} {h : Nat} : ∀ (D : List Int), (∀ d ∈ D, 4 ≤ (wkE S h d).length) → 4 * D.length ≤ (D.flatMap (wkE S h)).length
  | [], _ => Nat.zero_le _
  | d :: D, hd => by
    have h1 := hd d (List.mem_cons_self ..)
    have h2 := low_sum D (fun z hz => hd z (List.mem_cons_of_mem _ hz))
    rw [List.flatMap_cons, List.length_append, List.length_cons]; omega
theorem low4 {S : DS} {k : Nat} : ∀ (h : Nat) (a : Int), tkG S k mu4 h (mu4 h) a → 4 ≤ (wkE S h a).length
  | 0, _, g => g.elim
  | h + 1, a, g => by
    obtain ⟨_, _, _, g3, ⟨g4, g5, g6⟩, g7, g8⟩ := g
    rw [wkE, List.length_append]
    by_cases h0 : h = 0
    · subst h0
      have : 4 ≤ (rdN S a (decide (0 = 0))).E.length := g5
      omega
    · rw [decide_eq_false h0] at g4 g7 ⊢
      have h1 : 1 ≤ (rdN S a false).D.length := g4
      have h2 := low_sum _ (fun d hd => low4 h d (g7 d hd))
      omega
/-- a tree of few entries is low -/
theorem ti_low {k : Nat} {O R : List Nat} {v : VS} {a : Int} {h : Nat} {E : List ENT} (ti : TI k mu4 O R v a h E) (hE : E.length ≤ 7) : h ≤ 1 := by
  rcases ti.g with h0 | g
  · omega
  · rcases h with _ | _ | h
    · omega
    · omega
    · have hEe := ti.ents
      obtain ⟨_, _, _, g3, ⟨g4, g5, g6⟩, g7, g8⟩ := g
      have hd1 : decide (h + 1 = 0) = false := rfl
      rw [hd1] at g5 g7
      have h1 : 2 ≤ (rdN v.S a false).D.length := by
        rw [rmin, if_neg (by omega)] at g5
        exact g5
      have h2 := low_sum _ (fun d hd => low4 (h + 1) d (g7 d hd))
      rw [wkE, hd1] at hEe
      have h3 := congrArg List.length hEe
      rw [List.length_append] at h3
      omega
theorem free_at {k : Nat} (h : 8 ≤ k) : Fre k [] [] 6 := ⟨[2, 3, 4, 5, 6, 7], rfl, by decide, fun i hi => ⟨by simp at hi; omega, by simp, by simp⟩⟩
theorem ti_new {k : Nat} (mu : Nat → Nat) (h : 8 ≤ k ∧ k ≤ 512) : TI k mu [] [] (v0 k) 0 0 [] :=
  ⟨⟨h, DS.new_on k h.2, DS.new_len k, by show 1 < 18446744073709551616; decide, Inv.new k h, Inv.new k h, fun x hx => by cases hx⟩, .inl rfl, rfl, ⟨List.Pairwise.nil, fun e he => by cases he⟩, by decide⟩
/-- the entries with which a disk is filled -/
def eF (i : Nat) : ENT := entA ((7 * i / 1000 : Nat) : Int) ((7 * i % 1000 : Nat) : Int) 0 1
def eL (n : Nat) : List ENT := (List.range n).map eF
theorem eL_len (n : Nat) : (eL n).length = n := by simp [eL]
theorem eL_succ (n : Nat) : eL (n + 1) = eL n ++ [eF n] := by rw [eL, List.range_succ, List.map_append]; rfl
theorem eF_key (i : Nat) (h : i < 400) : (eF i).key = (((7 * i / 1000 : Nat) : Int), ((7 * i % 1000 : Nat) : Int)) ∧ (eF i).fin = ((7 * i % 1000 : Nat) : Int) := by
  refine ⟨Prod.ext ?_ ?_, ?_⟩
  · show ((7 * i / 1000 : Nat) : Int) % 18446744073709551616 % 4 = _
    omega
  · show ((7 * i % 1000 : Nat) : Int) % 1000 = _
    omega
  · show ((7 * i % 1000 : Nat) : Int) % 1000 + 0 % 18446744073709551616 % 6 = _
    omega
theorem eF_less {i j : Nat} (h : i < j) (hj : j < 400) : lessK (eF i).key (eF j).key = true := by
  rw [(eF_key i (by omega)).1, (eF_key j hj).1]
  unfold lessK
  rw [Bool.or_eq_true, Bool.and_eq_true, decide_eq_true_eq, decide_eq_true_eq, decide_eq_true_eq]
  simp only
  omega
theorem eF_meets {i j : Nat} (h : i < j) (hj : j < 400) : meetsE (eF j) (eF i) = false := by
  obtain ⟨k1, k2⟩ := eF_key i (by omega)
  obtain ⟨k3, k4⟩ := eF_key j hj
  rw [meetsE, k1, k2, k3, k4]
  rw [Bool.and_eq_false_iff, Bool.and_eq_false_iff, decide_eq_false_iff_not, decide_eq_false_iff_not, decide_eq_false_iff_not]
  simp only
  omega
theorem eL_mem {n : Nat} {y : ENT} (h : y ∈ eL n) : ∃ i, i < n ∧ y = eF i := by
  obtain ⟨i, hi, rfl⟩ := List.mem_map.1 h
  exact ⟨i, List.mem_range.1 hi, rfl⟩
theorem eL_asc {n : Nat} (hn : n < 400) : ∀ y ∈ eL n, lessK (eF n).key y.key = false := fun y hy => by
  obtain ⟨i, hi, rfl⟩ := eL_mem hy
  exact lessK_asym (eF_less hi hn)
theorem eL_chk {n : Nat} (hn : n < 400) : chkE (eL n) (eF n) = 0 := by
  have h1 : (eL n).any (fun y => decide (y.key = (eF n).key)) = false := by
    rw [List.any_eq_false]
    intro y hy
    obtain ⟨i, hi, rfl⟩ := eL_mem hy
    rw [decide_eq_true_eq]
    intro c
    have h := eF_less hi hn
    rw [c] at h
    rw [lessK_asym h] at h
    cases h
  have h2 : (eL n).any (fun y => meetsE (eF n) y) = false := by
    rw [List.any_eq_false]
    intro y hy
    obtain ⟨i, hi, rfl⟩ := eL_mem hy
    rw [eF_meets hi hn]; simp
  rw [chkE, if_neg (by rw [h1]; simp), if_neg (by rw [h2]; simp)]
theorem eL_ins {n : Nat} (hn : n < 400) : insE (eL n) (eF n) = eL (n + 1) := by
  obtain ⟨h1, h2⟩ := tw_left (p := fun y : ENT => !lessK (eF n).key y.key) (A := eL n) (B := []) (fun a ha => by rw [eL_asc hn a ha]; rfl)
  rw [List.append_nil] at h1 h2
  rw [insE, h1, h2, eL_succ, List.takeWhile_nil, List.append_nil, List.dropWhile_nil]
/-- the one entry -/
def gX : ENT := ⟨(1, 5), 6, 2, 9, 2, 0, 0⟩
theorem gX_ok : entOk gX = true := by decide
theorem gX_R : entR gX := ⟨by unfold i64R gX; decide, by unfold i64R gX; decide, by unfold gX; decide⟩
/-- an entry that is put is there -/
theorem grow_facts : ∃ (v' : VS) (t : Nat), iG (v0 20) 0 0 gX ∧ iN (v0 20) 0 0 gX = (v', ((t : Int), 1), 0) ∧ v'.ok ∧ v'.S.W.length ≤ 60 ∧ fdG v'.S 1 (t : Int) gX.key ∧ fdN v'.S 1 (t : Int) gX.key = (gX, 0) ∧
    iG v' (t : Int) 1 gX ∧ iN v' (t : Int) 1 gX = (v', (0, 0), 11) ∧ freeM v'.m = 17 := by
  have h20 : 8 ≤ 20 ∧ 20 ≤ 512 := by decide
  have t0 := ti_new (k := 20) mu4 h20
  have hins : insE [] gX = [gX] := rfl
  have g0 : iG (v0 20) 0 0 gX := iG_of mu4_lim t0 gX_ok gX_R (fun y hy => by cases hy) (by show 0 ≤ 600000; decide)
  rcases i_spec mu4_lim t0 gX_ok gX_R rfl with ⟨v', t, H, e, ti, hW, _, hH⟩ | ⟨_, hn⟩
  · rw [hins] at ti
    have hl := ti_low ti (by show 1 ≤ 7; decide)
    have hH1 : H = 1 := by omega
    subst hH1
    have hW0 : v'.S.W.length ≤ 60 := by
      have : (v0 20).S.W.length = 0 := rfl
      omega
    have tg := ti.g.resolve_left (by decide)
    have hee := ti.ents
    have hfr := ti.vg.m.free
    obtain ⟨⟨p, hp, hp2⟩, g1, g2, g3, ⟨g4, g5, g6⟩, g7, g8⟩ := tg
    have hd1 : decide ((0 : Nat) = 0) = true := rfl
    have hD : (rdN v'.S (t : Int) true).D = [] := g3.2
    have hK : (rdN v'.S (t : Int) true).K = [] := g3.1
    have hE : (rdN v'.S (t : Int) true).E = [gX] := by
      rw [wkE, hd1, hD, List.flatMap_nil, List.append_nil] at hee
      exact hee
    have hpg : (pgN v'.S (0 + 1) (t : Int) ++ []).length = 1 := by
      rw [List.append_nil, pgN, hd1, hD]; rfl
    rw [hpg] at hfr
    refine ⟨v', t, g0, e, ti.vg.ok, hW0, ?_, ?_, iG_of mu4_lim ti gX_ok gX_R (fun y hy => ?_) (by omega), ?_, by omega⟩
    · refine ⟨by omega, g1, ?_, ?_, fun c => absurd rfl c⟩
      · rw [hd1, hE]; show 1 ≤ 1000; decide
      · rw [hd1, hK]; exact Nat.zero_le _
    · rw [fdN, if_pos rfl, hE]; rfl
    · rw [List.mem_singleton.1 hy]; rfl
    · have hc : chkE [gX] gX = 11 := rfl
      rw [iN, ti.ents, hc, if_pos (by decide)]
  · exact (hn.elim (fun q => q ((free_at (k := 20) (by decide)).le (by decide))) (by decide)).elim
end Go.Proofs.YtcglabmlhljkmaaGreat
end
section
/- txn: an entry that is put, in plain terms. -/
namespace Go.Proofs.YtcglabmlhljkmaaGreat
open Go Go.RowKit Go.Gv
set_option linter.unusedVariables false
set_option linter.unusedSimpArgs false

/-- an entry of a text, at some page -/
def entT (x : ENT) (a : Int) (text : List UInt8) : ENT := ⟨x.key, x.fin, a, (text.length : Int), x.count, x.codec, (crcSum text).toNat⟩
/-- a view behind a text that was written -/
def putV (v : VS) (m2 : BM) (t : Nat) (text : List UInt8) : VS := ⟨(v.S.wrs ((t : Int) * 4) (secs (padB text) ((padB text).length / 64))).1, v.gen, m2, v.old⟩
end Go.Proofs.YtcglabmlhljkmaaGreat
end
section
/- txn: a commit, in plain terms. -/
namespace Go.Proofs.YtcglabmlhljkmaaGreat
open Go Go.RowKit Go.Gv
set_option linter.unusedVariables false
set_option linter.unusedSimpArgs false

/-- the super of a commit -/
def spN (s : SP) (a : Int) (h : Nat) (t : Nat) : SP := ⟨s.gen + 1, if h = 0 then 0 else a, (h : Int), (t : Int), s.pages⟩
/-- all that is asked of a commit -/
structure CmG (v : VS) (s : SP) (m m1 m2 : BM) (a : Int) (h t : Nat) : Prop where
  hv : v.ok
  hl : v.S.W.length ≤ 700000
  hm : m.u.length = 512
  hm1 : m1.u.length = 512
  hm2 : m2.u.length = 512
  hg : s.gen + 1 < 18446744073709551616
  gv : giveM v.m s.bitmap 1 = (m1, 0)
  tk : takeM m1 m 1 = (m2, (t : Int), 0)
  e1 : (wrPg v.S (mpP (t : Int) (s.gen + 1) m2)).2 = 0
  e2 : (wrPg v.S (mpP (t : Int) (s.gen + 1) m2)).1.fl.2 = 0
  o2 : (wrPg v.S (mpP (t : Int) (s.gen + 1) m2)).1.fl.1.ok
  l2 : (wrPg v.S (mpP (t : Int) (s.gen + 1) m2)).1.fl.1.W.length ≤ 700000
  e3 : (wrS (wrPg v.S (mpP (t : Int) (s.gen + 1) m2)).1.fl.1 (spN s a h t)).2 = 0
  o3 : (wrS (wrPg v.S (mpP (t : Int) (s.gen + 1) m2)).1.fl.1 (spN s a h t)).1.ok
  l3 : (wrS (wrPg v.S (mpP (t : Int) (s.gen + 1) m2)).1.fl.1 (spN s a h t)).1.W.length ≤ 800000
  e4 : (wrS (wrPg v.S (mpP (t : Int) (s.gen + 1) m2)).1.fl.1 (spN s a h t)).1.fl.2 = 0
  o4 : (⟨cmS v.S (spN s a h t) m2, s.gen + 1, m2, m2⟩ : VS).ok
  rm : rightM m2 = true
  pm : m2.p = (((cmS v.S (spN s a h t) m2).A.length / 256 : Nat) : Int)
end Go.Proofs.YtcglabmlhljkmaaGreat
end
section
/- txn: raw texts; an empty store; in plain terms. -/
namespace Go.Proofs.YtcglabmlhljkmaaGreat
open Go Go.RowKit Go.Gv
set_option linter.unusedVariables false
set_option linter.unusedSimpArgs false

/-- a raw text that is written where there is power -/
def rwS (S : DS) (t : Int) (b : List UInt8) : DS × Nat := S.wrs (t * 4) (secs (padB b) ((padB b).length / 64))
def z256 : List UInt8 := List.replicate 256 0
/-- an empty store's map, super, and disk, step by step -/
def fm1 (k : Nat) : BM := (takeM (newM (k : Int)) (newM (k : Int)) 1).1
def spF (k : Nat) : SP := ⟨1, 0, 0, 2, (k : Int)⟩
def fmA (k : Nat) : DS × Nat := wrPg (DS.new k) (mpP 2 1 (fm1 k))
def fmB (k : Nat) : DS × Nat := (fmA k).1.fl
def fmC (k : Nat) : DS × Nat := wrS (fmB k).1 (spF k)
def fmD (k : Nat) : DS × Nat := rwS (fmC k).1 0 z256
def fmS (k : Nat) : DS := (fmD k).1.fl.1
structure FmG (k : Nat) : Prop where
  tk : takeM (newM (k : Int)) (newM (k : Int)) 1 = (fm1 k, 2, 0)
  len : (fm1 k).u.length = 512
  rm : rightM (fm1 k) = true
  e1 : (fmA k).2 = 0
  o1 : (fmA k).1.ok
  l1 : (fmA k).1.W.length ≤ 100
  e2 : (fmB k).2 = 0
  o2 : (fmB k).1.ok
  l2 : (fmB k).1.W.length ≤ 100
  e3 : (fmC k).2 = 0
  o3 : (fmC k).1.ok
  l3 : (fmC k).1.W.length ≤ 100
  e4 : (fmD k).2 = 0
  o4 : (fmD k).1.ok
  l4 : (fmD k).1.W.length ≤ 100
  e5 : (fmD k).1.fl.2 = 0
  cm : CM k (fmS k) (spF k) (fm1 k) [2]
end Go.Proofs.YtcglabmlhljkmaaGreat
end
section
/- txn: texts beside a tree; one that is put; in plain terms. -/
namespace Go.Proofs.YtcglabmlhljkmaaGreat
open Go Go.RowKit Go.Gv
set_option linter.unusedVariables false
set_option linter.unusedSimpArgs false

/-- what an entry's pages hold -/
def txE (S : DS) (x : ENT) : List UInt8 := (S.V.drop (x.addr.toNat * 256)).take x.len.toNat
/-- an entry whose text is there -/
structure TxE (S : DS) (x : ENT) : Prop where
  ok : entOk x = true
  fit : x.addr + pagesE x.len ≤ ((S.A.length / 256 : Nat) : Int)
  crc : (crcSum (txE S x)).toNat = x.crc
theorem ent_bounds {x : ENT} (ok : entOk x = true) : (2 ≤ x.addr ∧ x.addr ≤ 511) ∧ (1 ≤ x.len ∧ x.len ≤ 65535) ∧ x.addr + pagesE x.len ≤ 512 := by
  simp only [entOk, Bool.and_eq_true, betw, decide_eq_true_eq] at ok
  exact ⟨ok.1.1.1.1.2, ok.1.1.1.2, ok.1.1.2⟩
theorem TxE.bounds {S : DS} {x : ENT} (h : TxE S x) : (2 ≤ x.addr ∧ x.addr ≤ 511) ∧ (1 ≤ x.len ∧ x.len ≤ 65535) := ⟨(ent_bounds h.ok).1, (ent_bounds h.ok).2.1⟩
theorem TxE.rd {S : DS} {x : ENT} (h : TxE S x) (ho : S.off = false) (hA : S.A.length % 256 = 0) : rdE S (x.addr * 4) ((x.len.toNat + 63) / 64) = 0 := by
  obtain ⟨h1, h2⟩ := h.bounds
  have hf := h.fit
  rw [pagesE] at hf
  obtain ⟨a, ha⟩ : ∃ a : Nat, x.addr = (a : Int) := ⟨x.addr.toNat, by omega⟩
  obtain ⟨n, hn⟩ : ∃ n : Nat, x.len = (n : Int) := ⟨x.len.toNat, by omega⟩
  have e : x.addr * 4 = ((a * 4 : Nat) : Int) := by omega
  rw [e, hn]
  show rdE S _ ((n + 63) / 64) = 0
  refine rdE_of ho _ ?_
  have h3 : (n + 63) / 64 ≤ 4 * ((n + 255) / 256) := by omega
  have h4 : a + (n + 255) / 256 ≤ S.A.length / 256 := by omega
  omega
/-- so many pages an entry's text takes -/
def nE (x : ENT) : Nat := (pagesE x.len).toNat
def txP (x : ENT) : List Nat := runL x.addr.toNat (nE x)
/-- the pages of all texts -/
def txs (E : List ENT) : List Nat := E.flatMap txP
theorem txE_at (S : DS) (x : ENT) (h : x.len.toNat ≤ nE x * 256) : txE S x = (textAt S.V x.addr.toNat (nE x)).take x.len.toNat := by
  rw [txE, textAt, List.take_take, Nat.min_eq_left h]
theorem nE_ge {x : ENT} (h : 0 ≤ x.len) : x.len.toNat ≤ nE x * 256 := by
  rw [nE, pagesE]; omega
theorem TxE.same {S S' : DS} {x : ENT} (h : TxE S x) (hl : S'.A.length = S.A.length) (hp : ∀ p ∈ txP x, pgAt S'.V p = pgAt S.V p) : TxE S' x ∧ txE S' x = txE S x := by
  have hb := h.bounds
  have e : txE S' x = txE S x := by
    rw [txE_at S' x (nE_ge (by omega)), txE_at S x (nE_ge (by omega)), textAt_same _ hp]
  exact ⟨⟨h.ok, by rw [hl]; exact h.fit, by rw [e]; exact h.crc⟩, e⟩
theorem TI.perm {k : Nat} {mu : Nat → Nat} {O R R' : List Nat} {v : VS} {a : Int} {h : Nat} {E : List ENT} (ti : TI k mu O R v a h E) (p : R.Perm R') : TI k mu O R' v a h E :=
  ⟨ti.vg.perm (List.Perm.append_left _ p), ti.g, ti.ents, ti.ord, ti.h5⟩
structure TxtR (k : Nat) (mu : Nat → Nat) (O R : List Nat) (v : VS) (a : Int) (h : Nat) (E : List ENT) (text : List UInt8) (n t : Nat) (m2 : BM) : Prop where
  tk : takeM v.m v.old (n : Int) = (m2, (t : Int), 0)
  fit : 2 ≤ t ∧ t + n ≤ k
  len : m2.u.length = 512
  rm : rightM m2 = true
  p : m2.p = v.m.p
  w : (rwS v.S (t : Int) text).2 = 0
  ti : TI k mu O (runL t n ++ R) (putV v m2 t text) a h E
  sm : same v.S (putV v m2 t text).S (pgN v.S h a ++ (R ++ O))
  txt : textAt (putV v m2 t text).S.V t n = padB text
  W : (putV v m2 t text).S.W.length ≤ v.S.W.length + n * 4
  A : (putV v m2 t text).S.A = v.S.A
  new : ∀ p ∈ runL t n, p ∉ pgN v.S h a ++ R ∧ p ∉ O
end Go.Proofs.YtcglabmlhljkmaaGreat
end
section
/- txn: what is there to stay, and changes of it: begun, put, committed; in plain terms. -/
namespace Go.Proofs.YtcglabmlhljkmaaGreat
open Go Go.RowKit Go.Gv
set_option linter.unusedVariables false
set_option linter.unusedSimpArgs false

/-- the pages of a base -/
def bsU (S : DS) (s : SP) (b h : Nat) (E : List ENT) : List Nat := pgN S h s.addr ++ (b :: txs E)
/-- what is there to stay: entries, their texts -/
structure CMT (k : Nat) (mu : Nat → Nat) (S : DS) (s : SP) (m : BM) (b h : Nat) (E : List ENT) : Prop where
  cm : CM k S s m (bsU S s b h E)
  bb : s.bitmap = (b : Int)
  hh : s.height = (h : Int)
  g : h = 0 ∨ tkG S k mu h (rmin h) s.addr
  ents : wkE S h s.addr = E
  ord : ordE E
  h5 : h ≤ 5
  tx : ∀ x ∈ E, TxE S x
/-- changes under way -/
structure TXI (k : Nat) (mu : Nat → Nat) (S0 : DS) (s : SP) (m : BM) (b h0 : Nat) (E0 : List ENT) (v : VS) (a : Int) (h : Nat) (E : List ENT) : Prop where
  c : CMT k mu S0 s m b h0 E0
  gen : v.gen = s.gen + 1
  old : v.old = m
  A : v.S.A = S0.A
  sm : same S0 v.S (bsU S0 s b h0 E0)
  ti : TI k mu (bsU S0 s b h0 E0) (b :: txs E) v a h E
  tx : ∀ x ∈ E, TxE v.S x
theorem CMT.ti {k : Nat} {mu : Nat → Nat} {S : DS} {s : SP} {m : BM} {b h : Nat} {E : List ENT} (c : CMT k mu S s m b h E) (g : Nat) (hg : g < 18446744073709551616) : TI k mu (bsU S s b h E) (b :: txs E) ⟨S, g, m, m⟩ s.addr h E :=
  ⟨c.cm.view g hg, c.g, c.ents, c.ord, c.h5⟩
/-- changes begin -/
theorem CMT.begin {k : Nat} {mu : Nat → Nat} {S : DS} {s : SP} {m : BM} {b h : Nat} {E : List ENT} (c : CMT k mu S s m b h E) : TXI k mu S s m b h E ⟨S, s.gen + 1, m, m⟩ s.addr h E := by
  have hg := c.cm.gen
  exact ⟨c, rfl, rfl, rfl, same.rfl, c.ti _ (by omega), c.tx⟩
/-- a chunk that is put -/
structure PutR (k : Nat) (mu : Nat → Nat) (S0 : DS) (s : SP) (m : BM) (b h0 : Nat) (E0 : List ENT) (v : VS) (a : Int) (h : Nat) (E : List ENT) (x : ENT) (text : List UInt8) (t : Nat) (m2 : BM) (v2 : VS) (a2 : Int) (h2 : Nat) : Prop where
  mid : TxtR k mu (bsU S0 s b h0 E0) (b :: txs E) v a h E text ((text.length + 255) / 256) t m2
  i : iN (putV v m2 t text) a h (entT x (t : Int) text) = (v2, (a2, h2), 0)
  xi : TXI k mu S0 s m b h0 E0 v2 a2 h2 (insE E (entT x (t : Int) text))
  W : v2.S.W.length ≤ v.S.W.length + (text.length + 255) / 256 * 4 + 60
  txt : txE v2.S (entT x (t : Int) text) = text
end Go.Proofs.YtcglabmlhljkmaaGreat
end
section
/- txn: what is committed is there to stay; in plain terms. -/
namespace Go.Proofs.YtcglabmlhljkmaaGreat
open Go Go.RowKit Go.Gv
set_option linter.unusedVariables false
set_option linter.unusedSimpArgs false

theorem CM.perm {k : Nat} {S : DS} {s : SP} {m : BM} {U U' : List Nat} (c : CM k S s m U) (p : U.Perm U') : CM k S s m U' :=
  ⟨c.k8, c.on, c.len, c.W, c.sok, c.pages, c.gen, c.sup, c.old, inv_perm c.mok p, by
    obtain ⟨b, h1, h2, h3⟩ := c.bit
    exact ⟨b, h1, p.mem_iff.1 h2, h3⟩⟩
end Go.Proofs.YtcglabmlhljkmaaGreat
end
section
/- txn: one chunk that stays, in plain terms. -/
namespace Go.Proofs.YtcglabmlhljkmaaGreat
open Go Go.RowKit Go.Gv
set_option linter.unusedVariables false
set_option linter.unusedSimpArgs false

theorem fre_all (k : Nat) (h : 2 ≤ k) : Fre k [] [] (k - 2) := by
  refine ⟨List.range' 2 (k - 2), List.length_range', List.nodup_range', fun i hi => ⟨?_, List.not_mem_nil, List.not_mem_nil⟩⟩
  have := List.mem_range'_1.1 hi
  omega
theorem fre_cons {k n : Nat} : ∀ U : List Nat, Fre k [] [] (n + U.length) → Fre k U [] n
  | [], h => h
  | t :: U, h => Fre.cons (fre_cons U (by rw [List.length_cons] at h; rw [show n + 1 + U.length = n + (U.length + 1) by omega]; exact h))
/-- few pages are in use -/
theorem fre_few {k n : Nat} {U O : List Nat} (h : n + U.length + O.length + 2 ≤ k) : Fre k U O n := by
  obtain ⟨l, h1, h2, h3⟩ := fre_cons (n := n) (U ++ O) ((fre_all k (by omega)).le (by rw [List.length_append]; omega))
  exact ⟨l, h1, h2, fun i hi => ⟨(h3 i hi).1, fun c => (h3 i hi).2.1 (List.mem_append_left _ c), fun c => (h3 i hi).2.1 (List.mem_append_right _ c)⟩⟩
end Go.Proofs.YtcglabmlhljkmaaGreat
end
section
/- tree: pages that are set to be in use, and a tree that is put beside them; in plain terms. -/
namespace Go.Proofs.YtcglabmlhljkmaaGreat
open Go Go.RowKit Go.Gv
set_option linter.unusedVariables false
set_option linter.unusedSimpArgs false

/-- one page more is set to be in use -/
theorem mark_step {k : Nat} {m : BM} {U : List Nat} {t : Nat} (i : Inv k m U) (h : 8 ≤ k ∧ k ≤ 512) (ht : 2 ≤ t ∧ t < k) : ∃ U', Inv k ⟨m.p, m.u.set t true⟩ U' ∧ U'.length ≤ U.length + 1 := by
  by_cases c : t ∈ U
  · refine ⟨U, ?_, Nat.le_succ _⟩
    have hu : useAt m.u t = true := (i.use t).2 (.inr c)
    have e : m.u.set t true = m.u := by
      apply List.ext_getElem?
      intro j
      rw [List.getElem?_set]
      split
      · rename_i hj
        subst hj
        have htl : t < m.u.length := by rw [i.len]; omega
        rw [if_pos htl]
        rw [useAt, List.getD_eq_getElem?_getD, List.getElem?_eq_getElem htl] at hu
        rw [List.getElem?_eq_getElem htl]
        have : m.u[t] = true := hu
        rw [this]
      · rfl
    rw [e]
    exact i
  · exact ⟨t :: U, inv_set i h ht c, Nat.le_refl _⟩
/-- least sizes of nodes that come of entries that are put -/
def mu8 (h : Nat) : Nat := limN (h - 1)
theorem mu8_lim (h : Nat) : mu8 (h + 1) ≤ limN h := Nat.le_refl _
def lo8 : Nat → Nat
  | 0 => 4
  | h + 1 => 8 * lo8 h
theorem lo_sum {S : DS} {h n : Nat} : ∀ (D : List Int), (∀ d ∈ D, n ≤ (wkE S h d).length) → n * D.length ≤ (D.flatMap (wkE S h)).length
  | [], _ => Nat.zero_le _
  | d :: D, hd => by
    have h1 := hd d (List.mem_cons_self ..)
    have h2 := lo_sum D (fun z hz => hd z (List.mem_cons_of_mem _ hz))
    rw [List.flatMap_cons, List.length_append, List.length_cons, Nat.mul_succ]; omega
theorem lo8_le {S : DS} {k : Nat} : ∀ (h : Nat) (a : Int), tkG S k mu8 (h + 1) (mu8 (h + 1)) a → lo8 h ≤ (wkE S (h + 1) a).length
  | h, a, g => by
    obtain ⟨_, _, _, g3, ⟨g4, g5, g6⟩, g7, g8⟩ := g
    rw [wkE, List.length_append]
    cases h with
    | zero =>
      have : 4 ≤ (rdN S a (decide (0 = 0))).E.length := g5
      show 4 ≤ _
      omega
    | succ h =>
      rw [decide_eq_false (Nat.succ_ne_zero h)] at g5 g7 ⊢
      have h1 : 8 ≤ (rdN S a false).D.length := g5
      have h2 := lo_sum _ (fun d hd => lo8_le h d (g7 d hd))
      have h3 : lo8 h * 8 ≤ lo8 h * (rdN S a false).D.length := Nat.mul_le_mul_left _ h1
      show 8 * lo8 h ≤ _
      omega
/-- few entries: a low tree of few pages -/
theorem ti_few {k : Nat} {O R : List Nat} {v : VS} {a : Int} {h : Nat} {E : List ENT} (ti : TI k mu8 O R v a h E) (hE : E.length < 64) : h ≤ 2 ∧ (pgN v.S h a).length ≤ 17 := by
  rcases ti.g with h0 | g
  · subst h0; exact ⟨by decide, by show 0 ≤ 17; decide⟩
  · rcases h with _ | _ | _ | h
    · exact ⟨by decide, by show 0 ≤ 17; decide⟩
    · refine ⟨by decide, ?_⟩
      have e : (rdN v.S a (decide (0 = 0))).D.flatMap (pgN v.S 0) = [] := by rw [List.flatMap_eq_nil_iff]; intro d _; rfl
      show (a.toNat :: (rdN v.S a (decide (0 = 0))).D.flatMap (pgN v.S 0)).length ≤ 17
      rw [e]; show 1 ≤ 17; decide
    · refine ⟨by decide, ?_⟩
      obtain ⟨_, _, _, _, ⟨_, _, g6⟩, _, _⟩ := g
      have h16 : (rdN v.S a (decide (1 = 0))).D.length ≤ 16 := g6
      have hs : ∀ D : List Int, (D.flatMap (pgN v.S (0 + 1))).length = D.length := fun D => by
        induction D with
        | nil => rfl
        | cons d D ih =>
          rw [List.flatMap_cons, List.length_append, ih, List.length_cons]
          have e : (rdN v.S d (decide (0 = 0))).D.flatMap (pgN v.S 0) = [] := by rw [List.flatMap_eq_nil_iff]; intro d _; rfl
          have : (pgN v.S (0 + 1) d).length = 1 := by rw [pgN, e]; rfl
          omega
      rw [pgN, List.length_cons, hs]; omega
    · exfalso
      have hEe := congrArg List.length ti.ents
      obtain ⟨_, _, _, g3, ⟨g4, g5, g6⟩, g7, g8⟩ := g
      rw [decide_eq_false (Nat.succ_ne_zero (h + 1))] at g5 g7
      have h2 : 2 ≤ (rdN v.S a false).D.length := g5
      have h3 : lo8 (h + 1) * (rdN v.S a false).D.length ≤ ((rdN v.S a false).D.flatMap (wkE v.S (h + 2))).length := lo_sum _ (fun d hd => lo8_le (h + 1) d (g7 d hd))
      have h4 : 32 ≤ lo8 (h + 1) := by
        show 32 ≤ 8 * lo8 h
        have : ∀ h, 4 ≤ lo8 h := fun h => by
          induction h with
          | zero => exact Nat.le_refl _
          | succ h ih => show 4 ≤ 8 * lo8 h; omega
        have := this h
        omega
      have h5 : lo8 (h + 1) * 2 ≤ lo8 (h + 1) * (rdN v.S a false).D.length := Nat.mul_le_mul_left _ h2
      rw [wkE, decide_eq_false (Nat.succ_ne_zero (h + 1)), List.length_append] at hEe
      omega
/-- one entry more, beside few pages in use -/
theorem maps_step {i : Nat} {U : List Nat} {v : VS} {a : Int} {h : Nat} (ti : TI 100 mu8 [] U v a h (eL i)) (hU : U.length ≤ 30) (hi : i < 60) (hW : v.S.W.length ≤ 60 * i) :
    iG v a h (eF i) ∧ (∃ v' t H, iN v a h (eF i) = (v', (((t : Nat) : Int), H), 0) ∧ TI 100 mu8 [] U v' (t : Int) H (eL (i + 1)) ∧ v'.S.W.length ≤ 60 * (i + 1)) := by
  have hok := entA_ok ((7 * i / 1000 : Nat) : Int) ((7 * i % 1000 : Nat) : Int) 0 1
  have hR := entA_R ((7 * i / 1000 : Nat) : Int) ((7 * i % 1000 : Nat) : Int) 0 1
  have hc := eL_chk (n := i) (by omega)
  refine ⟨iG_of mu8_lim ti hok hR (eL_asc (by omega)) (by omega), ?_⟩
  rcases i_spec mu8_lim ti hok hR hc with ⟨v', t, H, e, ti', hW', _, _⟩ | ⟨e5, hn⟩
  · have ti2 : TI 100 mu8 [] U v' (t : Int) H (eL (i + 1)) := by rw [← eL_ins (show i < 400 by omega)]; exact ti'
    exact ⟨v', t, H, e, ti2, by omega⟩
  · obtain ⟨h2, hp⟩ := ti_few ti (by rw [eL_len]; omega)
    rcases hn with hn | hn
    · refine absurd (fre_few ?_) hn
      rw [List.length_append, List.length_nil]; omega
    · omega
theorem eF_low {i : Nat} (hi : i < 60) : entA 0 ((7 * i : Nat) : Int) 0 1 = eF i := by
  rw [eF, show 7 * i / 1000 = 0 by omega, show 7 * i % 1000 = 7 * i by omega]; rfl
end Go.Proofs.YtcglabmlhljkmaaGreat
end
section
/- The numbers of the library's sort of ints in this program. -/
namespace Go.Proofs.YtcglabmlhljkmaaGreat
open Go Go.Shelf
def soR : Ren where
  f x := match x with
    | 189 => 73
    | 125 => 120
    | 257 => 119
    | 128 => 163
    | 129 => 164
    | 294 => 154
    | 295 => 155
    | 296 => 156
    | 297 => 157
    | 298 => 158
    | 299 => 159
    | 216 => 160
    | 300 => 161
    | 301 => 162
    | 328 => 189
    | 329 => 190
    | 330 => 191
    | 331 => 192
    | 332 => 193
    | 215 => 194
    | 343 => 207
    | n => n
  t x := match x with
    | 28 => 57
    | 3 => 3
    | 46 => 150
    | 0 => 0
    | 51 => 32
    | 53 => 22
    | 4 => 4
    | 183 => 249
    | 182 => 248
    | 131 => 253
    | 5 => 5
    | 9 => 9
    | 218 => 280
    | 222 => 284
    | 228 => 295
    | 229 => 296
    | n => n
  g n := n
theorem soLays : Lays.n189 Tryz.prog soR where
  mixed := rfl
  f125 := Tryz.func120.trans (congrArg some (Eq.refl (Body.n125 soR)))
  f128 := Tryz.func163.trans (congrArg some (Eq.refl (Body.n128 soR)))
  f129 := Tryz.func164.trans (congrArg some (Eq.refl (Body.n129 soR)))
  f189 := Tryz.func73.trans (congrArg some (Eq.refl (Body.n189 soR)))
  f215 := Tryz.func194.trans (congrArg some (Eq.refl (Body.n215 soR)))
  f216 := Tryz.func160.trans (congrArg some (Eq.refl (Body.n216 soR)))
  f257 := Tryz.func119.trans (congrArg some (Eq.refl (Body.n257 soR)))
  f294 := Tryz.func154.trans (congrArg some (Eq.refl (Body.n294 soR)))
  f295 := Tryz.func155.trans (congrArg some (Eq.refl (Body.n295 soR)))
  f296 := Tryz.func156.trans (congrArg some (Eq.refl (Body.n296 soR)))
  f297 := Tryz.func157.trans (congrArg some (Eq.refl (Body.n297 soR)))
  f298 := Tryz.func158.trans (congrArg some (Eq.refl (Body.n298 soR)))
  f299 := Tryz.func159.trans (congrArg some (Eq.refl (Body.n299 soR)))
  f300 := Tryz.func161.trans (congrArg some (Eq.refl (Body.n300 soR)))
  f301 := Tryz.func162.trans (congrArg some (Eq.refl (Body.n301 soR)))
  f328 := Tryz.func189.trans (congrArg some (Eq.refl (Body.n328 soR)))
  f329 := Tryz.func190.trans (congrArg some (Eq.refl (Body.n329 soR)))
  f330 := Tryz.func191.trans (congrArg some (Eq.refl (Body.n330 soR)))
  f331 := Tryz.func192.trans (congrArg some (Eq.refl (Body.n331 soR)))
  f332 := Tryz.func193.trans (congrArg some (Eq.refl (Body.n332 soR)))
  f343 := Tryz.func207.trans (congrArg some (Eq.refl (Body.n343 soR)))
  t0 := Tryz.underlying0
  a0 := Tryz.isAgg0
  z0 := Tryz.sizeOf0
  v0 := Tryz.zeroValue0
  t3 := Tryz.underlying3
  a3 := Tryz.isAgg3
  z3 := Tryz.sizeOf3
  v3 := Tryz.zeroValue3
  t4 := Tryz.underlying4
  a4 := Tryz.isAgg4
  z4 := Tryz.sizeOf4
  v4 := Tryz.zeroValue4
  t5 := Tryz.underlying5
  a5 := Tryz.isAgg5
  z5 := Tryz.sizeOf5
  v5 := Tryz.zeroValue5
  t9 := Tryz.underlying9
  a9 := Tryz.isAgg9
  z9 := Tryz.sizeOf9
  v9 := Tryz.zeroValue9
  t28 := Tryz.underlying57
  a28 := Tryz.isAgg57
  z28 := Tryz.sizeOf57
  v28 := Tryz.zeroValue57
  t46 := Tryz.underlying150
  a46 := Tryz.isAgg150
  z46 := Tryz.sizeOf150
  v46 := Tryz.zeroValue150
  t51 := Tryz.underlying32
  a51 := Tryz.isAgg32
  z51 := Tryz.sizeOf32
  v51 := Tryz.zeroValue32
  t53 := Tryz.underlying22
  a53 := Tryz.isAgg22
  z53 := Tryz.sizeOf22
  v53 := Tryz.zeroValue22
  t131 := Tryz.underlying253
  a131 := Tryz.isAgg253
  z131 := Tryz.sizeOf253
  v131 := Tryz.zeroValue253
  t182 := Tryz.underlying248
  a182 := Tryz.isAgg248
  z182 := Tryz.sizeOf248
  v182 := Tryz.zeroValue248
  t183 := Tryz.underlying249
  a183 := Tryz.isAgg249
  z183 := Tryz.sizeOf249
  v183 := Tryz.zeroValue249
  t218 := Tryz.underlying280
  a218 := Tryz.isAgg280
  z218 := Tryz.sizeOf280
  v218 := Tryz.zeroValue280
  t222 := Tryz.underlying284
  a222 := Tryz.isAgg284
  z222 := Tryz.sizeOf284
  v222 := Tryz.zeroValue284
  t228 := Tryz.underlying295
  a228 := Tryz.isAgg295
  z228 := Tryz.sizeOf295
  v228 := Tryz.zeroValue295
  t229 := Tryz.underlying296
  a229 := Tryz.isAgg296
  z229 := Tryz.sizeOf296
  v229 := Tryz.zeroValue296
end Go.Proofs.YtcglabmlhljkmaaGreat
end
section
/- slices.Sort of numbers: the kit's contract, as one of rows that are owned. -/
namespace Go.Proofs.YtcglabmlhljkmaaGreat
open Go Go.RowKit Go.Gv
set_option linter.unusedVariables false
set_option linter.unusedSimpArgs false

/-- numbers, rising -/
def sortI (xs : List Int) : List Int := xs.mergeSort fun x y => decide (x ≤ y)
theorem sortI_nil : sortI [] = [] := by rw [sortI, List.mergeSort_nil]
theorem sortI_perm (xs : List Int) : (sortI xs).Perm xs := List.mergeSort_perm xs _
theorem sortI_len (xs : List Int) : (sortI xs).length = xs.length := (sortI_perm xs).length_eq
theorem slices_Sort (A : Option Addr) (c : Nat) (xs : List Int) (m : Nat) (hx : xs.length = m) (hm : 0 < m ∧ m ≤ 1000000) :
    Gv.Spec Tryz.prog 73 #[.slice A m c] [own 3 1 (.slice A m c) m (NL xs)]
    (fun r H' => r = .tuple #[] ∧ H' = [own 3 1 (.slice A m c) m (NL (sortI xs))]) := fun w0 w H hw => by
  have hw1 : St w0 w (own 3 1 (.slice A m c) m (NL xs) :: H) := hw
  obtain ⟨s, hA⟩ := hw1.2.head
  rcases hA.2 with ⟨_, h0⟩ | ⟨g, cap, cur, hv, h2, h3, h4, h5, h6⟩
  · omega
  · cases hv
    have hb := (res_some h2).2
    have hlt : g < w.heap.size := (Array.getElem?_eq_some_iff.1 hb).1
    have ht : cur.toList.take xs.length = xs.map (Value.int .i64) := by rw [hx]; rw [Nat.mul_one] at h6; exact h6
    have hc := Any.slices_Sort_int soLays g 0 c xs w (holds_of_blockI hb ht) hlt (by omega)
    rw [hx] at hc
    refine Calls.mono hc ?_
    rintro e w' ⟨rfl, n, os, rfl⟩
    refine ⟨_, ⟨rfl, rfl⟩, ?_⟩
    have ho := ownsRow_sortedI (base := 0) (n := n) (os := os) (ss := xs) (ts := sortI xs) (sortI_len xs) (Nat.zero_le _) hb (by omega) h4 h5
    rw [hx] at ho
    exact St.grown hw1 ho (.inl rfl) (grownBy_sortedI _)
end Go.Proofs.YtcglabmlhljkmaaGreat
end
section
/- tree: Pages: the walk. -/
namespace Go.Proofs.YtcglabmlhljkmaaGreat
open Go Go.RowKit Go.Gv
set_option linter.unusedVariables false
set_option linter.unusedSimpArgs false

/-- where the nodes stand, in the order in which they are gone through -/
def adP (P : List (Int × GOT)) : List Int := P.map (·.1)
theorem adP_snoc {P : List (Int × GOT)} {k : Nat} {q : Int × GOT} (h : P[k]? = some q) : adP (P.take (k + 1)) = adP (P.take k) ++ [q.1] := by
  rw [adP, adP, List.take_add_one, h]; simp
set_option maxHeartbeats 8000000 in
theorem tree_pages1 (a : Int) (nv : Value) (cs : List Value) (hn : nv = .agg cs.toArray) (o : List Int) (b7 : Nat) (A' : Option Addr) (c' : Nat) (hb : o.length ≤ 1000000) :
    Gv.Spec Tryz.prog 72 #[.int .i64 a, nv, .pointer (some ⟨b7, 0, none⟩)]
      ([blk b7 57 [.slice A' o.length c'], own 3 1 (.slice A' o.length c') o.length (NL o)] ++ [])
      (fun _ H' => ∃ z : Option Addr × Nat, H' = [blk b7 57 [.slice z.1 (o ++ [a]).length z.2], own 3 1 (.slice z.1 (o ++ [a]).length z.2) (o ++ [a]).length (NL (o ++ [a]))] ++ []) := by
  subst hn
  refine Gv.Spec.of (fun w h0 hw => ?_)
  refine Calls.enter Tryz.func72 rfl rfl rfl hw ?_
  simp only [argSlots]
  refine Wap ?_
  refine Ws ?_
  (refine Wbx ?_; intro b4)
  refine Ws ?_
  (refine Zli (ys := [.int .i64 a]) ?_; intro va)
  refine Ws ?_
  refine Zap (m2 := 1) (news := [.int .i64 a]) ?_ (hr := by exact rdw_own (v := va) Wp) (hl := by rfl) (h1 := by exact (by intro y hy; rw [List.mem_singleton.1 hy]; rfl))
  intro vr
  (refine Tri.shape (e := 3) (size := 1) (v := vr) Wp ?_; rintro ⟨A2, c2, rfl⟩)
  refine Ws ?_
  refine ZS ?_ (hi := by exact (by decide : 0 < 1))
  have hl' : (o ++ [a]).length = o.length + 1 := List.length_append
  refine Zat (own 3 1 (.slice A2 (o.length + 1) c2) _ _) (own 3 1 (.slice A2 (o ++ [a]).length c2) (o ++ [a]).length (NL (o ++ [a]))) ?_ (e := by rw [NL_snoc, hl'])
  refine Zat (blk b7 _ _) (blk b7 57 [.slice A2 (o ++ [a]).length c2]) ?_ (e := by rw [hl']; rfl)
  refine Ws ?_
  refine Zfn [blk b7 57 [.slice A2 (o ++ [a]).length c2], own 3 1 (.slice A2 (o ++ [a]).length c2) (o ++ [a]).length (NL (o ++ [a]))] (hq := ?_)
  exact ⟨(A2, c2), rfl⟩
/-- what Pages holds behind the k-th node -/
def pagI (b7 : Nat) (P : List (Int × GOT)) (k : Nat) : Atom := Gv.exA (fun z : Option Addr × Nat => Gv.star [blk b7 57 [.slice z.1 (adP (P.take k)).length z.2], own 3 1 (.slice z.1 (adP (P.take k)).length z.2) (adP (P.take k)).length (NL (adP (P.take k)))])
section
variable {P : Program} {w0 : World} {n : NT} {L : Slots} {H H' : List Atom} {G : Act → World → Prop}
theorem to_pagI {b7 : Nat} {Q : List (Int × GOT)} (p : Pulls H [blk b7 57 [.slice none 0 0], own 3 1 (.slice none 0 0) 0 []] H') (h : Tri w0 G n L (pagI b7 Q 0 :: H')) : Tri w0 G n L H :=
  Tri.toExA (P := Tryz.prog) (A := fun z : Option Addr × Nat => [blk b7 57 [.slice z.1 (adP (Q.take 0)).length z.2], own 3 1 (.slice z.1 (adP (Q.take 0)).length z.2) (adP (Q.take 0)).length (NL (adP (Q.take 0)))]) (none, 0) p h
theorem of_pagI {b7 k : Nat} {Q : List (Int × GOT)} {es : List Int} (he : adP (Q.take k) = es) (p : Pull H (pagI b7 Q k) H') (h : ∀ A c, Tri w0 G n L ([blk b7 57 [.slice A es.length c], own 3 1 (.slice A es.length c) es.length (NL es)] ++ H')) : Tri w0 G n L H := by
  subst he
  exact Tri.exA p (fun z => Tri.unstar .head (h z.1 z.2))
end
theorem spec_frame {P : Program} {f : FuncId} {args : Array Value} {Pre Post F : List Atom} (h : Gv.Spec P f args Pre (fun _ H' => H' = Post)) : Gv.Spec P f args (Pre ++ F) (fun _ H' => H' = Post ++ F) := fun w0 w H hw => by
  rw [List.append_assoc] at hw
  refine (h w0 w (F ++ H) hw).mono ?_
  intro e w' he
  cases e with
  | returned v =>
    obtain ⟨H', rfl, h3⟩ := he
    exact ⟨_, rfl, by rw [List.append_assoc]; exact h3⟩
  | panicked c => exact he
  | outgrown => exact he
theorem pag_spec (b7 : Nat) (Q : List (Int × GOT)) (hb : Q.length ≤ 1000000) (k : Nat) (q : Int × GOT) (hq : Q[k]? = some q) (A : Option Addr) (c : Nat) (B : Option Addr) (b : Nat) (C : Option Addr) (e : Nat) :
    Gv.Spec Tryz.prog 72 ([Value.int .i64 q.1, ndW q.2.leaf (.slice A q.2.E.length c) (.slice B q.2.K.length b) (.slice C q.2.D.length e)] ++ [Value.pointer (some ⟨b7, 0, none⟩)]).toArray [pagI b7 Q k, own 40 8 (.slice A q.2.E.length c) q.2.E.length (EL q.2.E)] (fun _ H' => H' = [pagI b7 Q (k + 1), own 40 8 (.slice A q.2.E.length c) q.2.E.length (EL q.2.E)]) := by
  have hs := adP_snoc hq
  have hbb : (adP (Q.take k)).length ≤ 1000000 := by rw [adP, List.length_map, List.length_take]; omega
  have := spec_exA (P := Tryz.prog) (f := 72) (A := fun z : Option Addr × Nat => [blk b7 57 [.slice z.1 (adP (Q.take k)).length z.2], own 3 1 (.slice z.1 (adP (Q.take k)).length z.2) (adP (Q.take k)).length (NL (adP (Q.take k)))])
    (B := fun z : Option Addr × Nat => [blk b7 57 [.slice z.1 (adP (Q.take k) ++ [q.1]).length z.2], own 3 1 (.slice z.1 (adP (Q.take k) ++ [q.1]).length z.2) (adP (Q.take k) ++ [q.1]).length (NL (adP (Q.take k) ++ [q.1]))])
    (fun z => tree_pages1 q.1 (ndW q.2.leaf (.slice A q.2.E.length c) (.slice B q.2.K.length b) (.slice C q.2.D.length e)) (ndLL q.2.leaf (.slice A q.2.E.length c) (.slice B q.2.K.length b) (.slice C q.2.D.length e)) rfl (adP (Q.take k)) b7 z.1 z.2 hbb)
  rw [← hs] at this
  exact spec_frame (F := [own 40 8 (.slice A q.2.E.length c) q.2.E.length (EL q.2.E)]) this
theorem adP_pg (S : DS) (k : Nat) (mu : Nat → Nat) : ∀ (h m : Nat) (a : Int), tkG S k mu h m a → adP (wkP S h a) = (pgN S h a).map (fun p : Nat => (p : Int))
  | 0, _, _, g => g.elim
  | h + 1, m, a, g => by
    obtain ⟨⟨p, hp, _⟩, _, _, _, _, g5, _⟩ := g
    rw [adP, wkP, pgN, List.map_cons, List.map_cons]
    congr 1
    · show a = ((a.toNat : Nat) : Int); omega
    · rw [List.map_flatMap, List.map_flatMap]
      exact flat_congr (fun d hd => adP_pg S k mu h (mu h) d (g5 d hd))
set_option maxHeartbeats 8000000 in
theorem tree_Pages (pv d : Nat) (v : VS) (hv : v.ok) (hl : v.S.W.length ≤ 1000000) (h : Nat) (a : Int) (hh : h ≤ 5) (hg : h = 0 ∨ wkG v.S h a) (Z : List Int) (hZ : adP (wkP v.S h a) = Z) (hlen : h ≠ 0 → 0 < Z.length ∧ Z.length ≤ 1000000) :
    Gv.Spec Tryz.prog 25 #[.pointer (some ⟨pv, 0, none⟩), rootV a (h : Int)] [blk pv 146 (viewL d v), DSK d v.S]
    (fun r H' => ∃ A c, r = .tuple #[.slice A Z.length c, .int .i64 0] ∧ H' = [blk pv 146 (viewL d v), DSK d v.S, own 3 1 (.slice A Z.length c) Z.length (NL (sortI Z))]) := by
  refine Gv.Spec.of (fun w h0 hw => ?_)
  refine Calls.enter Tryz.func25 rfl rfl rfl hw ?_
  simp only [argSlots]
  refine Wap ?_
  refine Ws ?_
  (refine Wbx ?_; intro b3)
  refine Ws ?_
  refine Zla (cs := rootL a (h : Int)) ?_ (hl := by rfl)
  refine Ws ?_
  refine Zcv (view_may pv a h hh) ?_
  refine Ws ?_
  refine Zz 14 false ?_
  refine Ws ?_
  rcases Nat.eq_zero_or_pos h with h00 | hpos
  · subst h00
    have hZ0 : Z = [] := hZ.symm
    subst hZ0
    refine Zz 18 true ?_
    refine Ws ?_
    (with_reducible apply Tri.ownNil 3 1)
    exact Zfn [blk pv 146 (viewL d v), DSK d v.S, own 3 1 (.slice none 0 0) 0 []] (hq := by exact ⟨none, 0, rfl, by rw [sortI_nil]; rfl⟩)
  · have hg' : wkG v.S h a := by rcases hg with q | q; omega; exact q
    obtain ⟨hZ1, hZ2⟩ := hlen (by omega)
    have hPl : (wkP v.S h a).length = Z.length := by rw [← hZ, adP, List.length_map]
    have heach := tree_each pv d v hv hl h a hg' (by omega) 72
    generalize wkP v.S h a = P at hZ hPl heach
    refine Zz 18 false ?_ (hi := by exact decide_eq_false (by omega))
    refine Ws ?_
    refine Zal fun b7 => ?_
    refine Ws ?_
    refine ZomakeFunc (vs := [.pointer (some ⟨b7, 0, none⟩)]) ?_ (hc := by exact ⟨rfl, trivial⟩)
    refine Ws ?_
    have hcall := heach [.pointer (some ⟨b7, 0, none⟩)] (pagI b7 P) (pag_spec b7 P (by omega))
    (with_reducible apply Tri.ownNil 3 1)
    refine Zat (blk b7 _ _) (blk b7 57 [.slice none 0 0]) ?_
    refine to_pagI (b7 := b7) (Q := P) Wps ?_
    refine Zd hcall ?_
    refine of_pagI (he := show adP (P.take P.length) = Z by rw [List.take_length]; exact hZ) Wp (fun A c => ?_)
    refine Wap ?_
    refine Ws ?_
    refine Zz 28 false ?_
    refine Ws ?_
    refine Zd (slices_Sort A c Z Z.length rfl ⟨hZ1, hZ2⟩) ?_
    refine Ws ?_
    exact Zfn [blk pv 146 (viewL d v), DSK d v.S, own 3 1 (.slice A Z.length c) Z.length (NL (sortI Z))] (hq := by exact ⟨A, c, rfl, rfl⟩)
end Go.Proofs.YtcglabmlhljkmaaGreat
end
section
/- tree: the laws' begin and entry: the walk. -/
namespace Go.Proofs.YtcglabmlhljkmaaGreat
open Go Go.RowKit Go.Gv
set_option linter.unusedVariables false
set_option linter.unusedSimpArgs false

set_option maxHeartbeats 8000000 in
theorem law13_begin (k : Nat) (h : 8 ≤ k ∧ k ≤ 512) : SpecR Tryz.prog 10 #[.int .i64 (k : Int)] (fun _ => True)
    (fun r H' => ∃ pv d, r = .tuple #[.pointer (some ⟨pv, 0, none⟩), .pointer (some ⟨d, 0, none⟩), .bool true] ∧ H' = [blk pv 146 (viewL d (v0 k)), DSK d (v0 k).S]) := by
  refine SpecR.of (fun w _ => ?_)
  refine Calls.enter Tryz.func10 rfl rfl rfl (St.rebase w) ?_
  simp only [argSlots]
  refine Ws ?_
  refine Zcr (disk_NewD k h) ?_
  rintro r1 H1 ⟨d, rfl, rfl⟩
  refine Wap ?_
  refine Ws ?_
  refine Zcv crc_New ?_
  refine Ws ?_
  refine Zcv (bm_New (k : Int)) ?_
  refine Ws ?_
  refine Zcv (bm_New (k : Int)) ?_
  refine Ws ?_
  refine Zat (DSK d _) (DSK d (v0 k).S) ?_
  have hop := tree_Open d (v0 k) (v0_ok h) (new_right k h) (new_right k h) (v0_p h) (v0_p h)
  refine Zcs hop ?_
  rintro r2 H2 ⟨pv, rfl, rfl⟩
  refine Wap ?_
  refine Ws ?_
  refine Zz 28 true ?_
  refine Ws ?_
  refine Zz 32 true ?_
  refine Ws ?_
  refine Zz 35 true ?_
  refine Ws ?_
  refine Zfn [blk pv 146 (viewL d (v0 k)), DSK d (v0 k).S] (hq := ?_)
  exact ⟨pv, d, rfl, rfl⟩
set_option maxHeartbeats 8000000 in
theorem law13_entry (q s t l p : Int) (hs : 0 ≤ t ∧ t ≤ 1000000) : SpecR Tryz.prog 12 #[.agg #[.int .i64 q, .int .i64 s, .int .i64 t, .int .i64 l, .int .i64 p]] (fun _ => True) (fun r H' => r = entV (entA s t l p) ∧ H' = []) := by
  refine SpecR.of (fun w _ => ?_)
  refine Calls.enter Tryz.func12 rfl rfl rfl (St.rebase w) ?_
  simp only [argSlots]
  refine Ws ?_
  (refine Wbx ?_; intro b1)
  refine Ws ?_
  refine Zal fun b2 => ?_
  refine Ws ?_
  refine Zbu (ys := [.int .i64 (s % 18446744073709551616 % 4), .int .i64 (t % 1000)]) ?_
  refine Ws ?_
  refine Zi 46 (((p % 4294967296).toNat : Nat) : Int) ?_ (hi := by omega)
  refine Zbu (ys := entL (entA s t l p)) ?_
  refine Ws ?_
  refine ZSa (ys := entL (entA s t l p)) ?_ (h1 := by exact entL_one5 _)
  refine Ws ?_
  exact Zfr (h := ResL.cons (Zra (rfl : (entL (entA s t l p)).length = 8)) (ResL.nil)) (hq := by simp only [tupled]; rfl)
end Go.Proofs.YtcglabmlhljkmaaGreat
end
section
/- tree: an entry that is looked for: the walk. -/
namespace Go.Proofs.YtcglabmlhljkmaaGreat
open Go Go.RowKit Go.Gv
set_option linter.unusedVariables false
set_option linter.unusedSimpArgs false

/-- where an entry is looked for -/
structure FK (S : DS) (k : KEY) (R0 : ENT × Nat) where
  h : Nat
  a : Int
  hR : fdN S h a k = R0
  hG : fdG S h a k
  hh : h ≤ 1000
set_option maxHeartbeats 8000000 in
theorem tree_Find (pv d : Nat) (v : VS) (a : Int) (h : Nat) (kx : KEY) (hv : v.ok) (hl : v.S.W.length ≤ 1000000) (hh : h ≤ 5) (hG : fdG v.S h a kx) :
    Gv.Spec Tryz.prog 18 #[.pointer (some ⟨pv, 0, none⟩), rootV a (h : Int), .agg (keyL kx).toArray] [blk pv 146 (viewL d v), DSK d v.S]
    (fun r H' => r = .tuple #[entV (fdN v.S h a kx).1, .int .i64 ((fdN v.S h a kx).2 : Int)] ∧ H' = [blk pv 146 (viewL d v), DSK d v.S]) := by
  refine Gv.Spec.of (fun w h0 hw => ?_)
  refine Calls.enter Tryz.func18 rfl rfl rfl hw ?_
  simp only [argSlots]
  refine Wap ?_
  obtain ⟨R0, hR0⟩ : ∃ R, R = fdN v.S h a kx := ⟨_, rfl⟩
  rw [← hR0]
  refine Ws ?_
  (refine Wbx ?_; intro b4)
  refine Ws ?_
  (refine Wbx ?_; intro b5)
  refine Ws ?_
  refine Zal fun b6 => ?_
  refine Ws ?_
  refine Zla (cs := rootL a (h : Int)) ?_ (hl := by rfl)
  refine Ws ?_
  refine Zcv (view_may pv a h hh) ?_
  refine Ws ?_
  refine Zz 19 false ?_
  refine Ws ?_
  have hz8 : [Value.int .i64 0, .int .i64 0, .int .i64 0, .int .i64 0, .int .i64 0, .int .i64 0, .int .i64 0, .int .u32 0] = entL ent0 := rfl
  rw [hz8]
  (refine Wl (α := FK v.S kx R0) (fun z => z.h) (fun z => [(0, .pointer (some ⟨pv, 0, none⟩)), (5, .pointer (some ⟨b5, 0, none⟩)), (6, .pointer (some ⟨b6, 0, none⟩)), (9, .int .i64 z.a), (10, .int .i64 (z.h : Int))]) (fun z => [blk b6 40 (entL ent0), blk b5 38 (keyL kx), blk pv 146 (viewL d v), DSK d v.S, Ex h0]) ⟨h, a, hR0.symm, hG, (by omega)⟩ ?_; rintro ⟨h, a, hR, hG, hh⟩ mx hmx; (try dsimp only at hmx ⊢))
  refine Ws ?_
  (refine Wcd ?_ ?_ <;> intro hc)
  · obtain ⟨g, rfl⟩ : ∃ g, h = g + 1 := ⟨h - 1, by omega⟩
    rw [fdG] at hG
    rw [fdN] at hR
    obtain ⟨ha, he, hE, hK, hD⟩ := hG
    have hNd := view_Node pv d v a (decide (g = 0)) hv hl ha
    obtain ⟨N, hN⟩ : ∃ N, N = rdN v.S a (decide (g = 0)) := ⟨_, rfl⟩
    rw [← hN] at hNd he hE hK
    have hg1 : g ≤ 1000 := by omega
    refine Ws ?_
    refine Zz 34 (decide (g = 0)) ?_ (hi := by exact decide_eq_decide.2 (by omega))
    refine Zcs hNd ?_
    rintro r1 H1 ⟨A, c, B, e, C, f, rfl, rfl⟩
    refine Wap ?_
    refine Ws ?_
    refine Zal fun b11 => ?_
    refine Ws ?_
    refine ZSa (ys := ndLL N.leaf (.slice A N.E.length c) (.slice B N.K.length e) (.slice C N.D.length f)) ?_ (h1 := by exact ndLL_one N.leaf A B C _ c _ e _ f)
    refine Ws ?_
    refine Zz 39 false ?_ (hi := by rw [he]; rfl)
    refine Ws ?_
    by_cases h00 : g = 0
    · subst h00
      have hN1 : rdN v.S a true = N := by rw [hN]; rfl
      rw [if_pos rfl, hN1] at hR
      have hk0 : (N.E.take 0).any (fun y => decide (y.key = kx)) = false := by rw [List.take_zero]; rfl
      have hEl8 : (EL N.E).length = N.E.length * 8 := EL_lens N.E rfl
      refine Zz 43 false ?_ (hi := by exact decide_eq_false (by omega))
      refine Ws ?_
      (refine Wl (α := Σ' (i : Nat), i ≤ N.E.length ∧ (N.E.take i).any (fun y => decide (y.key = kx)) = false) (fun z => N.E.length - z.1) (fun z => [(0, .pointer (some ⟨pv, 0, none⟩)), (5, .pointer (some ⟨b5, 0, none⟩)), (6, .pointer (some ⟨b6, 0, none⟩)), (9, .int .i64 a), (10, .int .i64 ((0 + 1 : Nat) : Int)), (52, .slice A N.E.length c), (53, .int .i64 (N.E.length : Int)), (54, .int .i64 (z.1 : Int))]) (fun z => [blk b6 40 (entL ent0), blk b5 38 (keyL kx), blk pv 146 (viewL d v), DSK d v.S, own 40 8 (.slice A N.E.length c) N.E.length (EL N.E), Ex h0]) ⟨0, Nat.zero_le _, hk0⟩ ?_; rintro ⟨i, hi, hno⟩ mx hmx; (try dsimp only at hmx ⊢))
      refine Ws ?_
      (refine Wcd ?_ ?_ <;> intro hc2)
      · have hil : i < N.E.length := by omega
        have hil' : i + 1 ≤ N.E.length := hil
        obtain ⟨y, hy⟩ : ∃ y, y = N.E.getD i ent0 := ⟨_, rfl⟩
        have hE8 : ((EL N.E).drop (i * 8)).take 8 = entL y := by rw [hy]; exact EL_eight N.E i hil
        have hat := any_take (fun y : ENT => decide (y.key = kx)) N.E ent0 i hil
        rw [← hy, hno, Bool.false_or] at hat
        refine Ws ?_
        refine Zix (j := i) ?_ (hj := by rfl) (hlt := by exact hil)
        refine Ws ?_
        refine Zlq (ys := entL y) ?_ (hv := by exact hE8) (hl := by rfl)
        refine Ws ?_
        refine Zal fun b14 => ?_
        refine Ws ?_
        refine ZSa (ys := entL y) ?_ (h1 := by exact entL_one5 y)
        refine Ws ?_
        refine Zlg ?_ (hv := by exact key_cells y) (hl := by rfl)
        refine Ws ?_
        refine Zla (cs := keyL kx) ?_ (hl := by rfl)
        refine Ws ?_
        refine ZoeqlA (r := decide (y.key = kx)) ?_ (hax := by exact keyS_alk y.key) (hay := by exact keyS_alk kx) (hr := by exact keyS_eq y.key kx)
        refine Ws ?_
        by_cases hk : y.key = kx
        · have hfd := fdE_some hno hil (by rw [← hy]; exact hk)
          rw [← hy, hR] at hfd
          refine Zz 61 true ?_ (hi := by exact decide_eq_true hk)
          refine Ws ?_
          refine Zla (cs := entL y) ?_ (hl := by rfl)
          refine Ws ?_
          refine ZSa (ys := entL y) ?_ (h1 := by exact entL_one5 y)
          refine Ws ?_
          rw [hfd]
          exact Zfn [blk pv 146 (viewL d v), DSK d v.S] (h := ResL.cons (Zra (rfl : (entL y).length = 8)) (ResL.cons (Res1.tmp rfl) (ResL.nil))) (hq := by exact ⟨rfl, rfl⟩)
        · have hno' : (N.E.take (i + 1)).any (fun y => decide (y.key = kx)) = false := by rw [hat]; exact decide_eq_false hk
          refine Zz 61 false ?_ (hi := by exact decide_eq_false hk)
          refine Ws ?_
          refine Zi 54 ((i + 1 : Nat) : Int) ?_ (hi := by omega)
          exact Zag ⟨i + 1, hil', hno'⟩
      · have hil : i = N.E.length := by omega
        rw [hil, List.take_length] at hno
        have hfd := fdE_none hno
        rw [hR] at hfd
        have hR1 : fdN v.S 0 a kx = R0 := by rw [hfd]; rfl
        have hG0 : fdG v.S 0 a kx := True.intro
        refine Ws ?_
        refine Zi 10 ((0 : Nat) : Int) ?_ (hi := by rfl)
        exact Zag ⟨0, a, hR1, hG0, Nat.zero_le _⟩
    · have hN1 : rdN v.S a false = N := by rw [hN, decide_eq_false h00]
      rw [if_neg h00, hN1] at hR
      obtain ⟨hq1, hq2⟩ := hD h00
      rw [hN1] at hq1 hq2
      obtain ⟨q, hq⟩ : ∃ q, q = childN N.K kx := ⟨_, rfl⟩
      have hcd := tree_child N.leaf (.slice A N.E.length c) (.slice B N.K.length e) (.slice C N.D.length f) N.K kx (by omega)
      rw [← hq] at hq1 hq2 hR hcd
      obtain ⟨kd, hkd⟩ : ∃ kd, kd = N.D.getD q 0 := ⟨_, rfl⟩
      rw [← hkd] at hq2 hR
      have hND : (NL N.D)[q * 1]? = some (.int .i64 kd) := by
        rw [Nat.mul_one, nl_get, hkd, List.getD_eq_getElem?_getD, List.getElem?_eq_getElem hq1]; rfl
      refine Zz 43 true ?_ (hi := by exact decide_eq_true (by omega))
      refine Ws ?_
      refine Wm [blk b11 125 (ndLL N.leaf (.slice A N.E.length c) (.slice B N.K.length e) (.slice C N.D.length f)), own 3 1 (.slice C N.D.length f) N.D.length (NL N.D), own 38 2 (.slice B N.K.length e) N.K.length (KL N.K), blk b5 38 (keyL kx)] ?_
      refine Wq [0, 1] ?_
      refine Zm 2 (h := fun _ _ qK => by exact Zla (cs := ndLL N.leaf (.slice A N.E.length c) (.slice B N.K.length e) (.slice C N.D.length f)) qK (hl := by rfl)) (k := ?_)
      refine Zm 3 (h := fun _ _ qK => by exact Zla (cs := keyL kx) qK (hl := by rfl)) (k := ?_)
      refine Zm 4 (h := fun _ _ qK => by exact Zcv hcd qK (hpre := by exact rdw_own (v := .slice B N.K.length e) Wp)) (k := ?_)
      refine Zm 5 (h := fun _ _ qK => by exact Zix (j := q) qK (hj := by rfl) (hlt := by exact hq1)) (k := ?_)
      refine Zm 6 (h := fun _ _ qK => by exact Zlo (j := q * 1) qK (hv := by exact hND)) (k := ?_)
      refine Wq [7] ?_
      refine ZE ?_
      refine Ws ?_
      refine Zi 10 (g : Int) ?_ (hi := by omega)
      exact Zag ⟨g, kd, hR, hq2, hg1⟩
  · have hh0 : h = 0 := by omega
    subst hh0
    rw [fdN] at hR
    refine Ws ?_
    refine ZSa (ys := entL ent0) ?_ (h1 := by exact entL_one5 _)
    refine Ws ?_
    rw [← hR]
    exact Zfn [blk pv 146 (viewL d v), DSK d v.S] (h := ResL.cons (Zra (rfl : (entL ent0).length = 8)) (ResL.cons (Res1.tmp rfl) (ResL.nil))) (hq := by exact ⟨rfl, rfl⟩)
end Go.Proofs.YtcglabmlhljkmaaGreat
end
section
/- tree: a view's map: the walk. -/
namespace Go.Proofs.YtcglabmlhljkmaaGreat
open Go Go.RowKit Go.Gv
set_option linter.unusedVariables false
set_option linter.unusedSimpArgs false

set_option maxHeartbeats 4000000 in
theorem view_Map (pv d : Nat) (v : VS) (hv : v.ok) :
    Gv.Spec Tryz.prog 23 #[.pointer (some ⟨pv, 0, none⟩)] [blk pv 146 (viewL d v)] (fun r H' => r = bmV v.m ∧ H' = [blk pv 146 (viewL d v)]) := by
  refine Gv.Spec.of (fun w h0 hw => ?_)
  refine Calls.enter Tryz.func23 rfl rfl rfl hw ?_
  simp only [argSlots]
  refine Wap ?_
  refine Ws ?_
  refine Zal fun b2 => ?_
  refine Ws ?_
  refine Zz 4 false ?_
  refine Ws ?_
  refine Zlg ?_ (hv := by exact viewL_m hv) (hl := by exact bmL_len hv.m)
  refine Ws ?_
  refine ZSa (ys := bmL v.m) ?_ (hl := by exact bmL_len hv.m) (hc := by exact z513g) (h1 := by exact bmL_one _)
  refine Ws ?_
  exact Zfn [blk pv 146 (viewL d v)] (h := ResL.cons (Zra (bmL_len hv.m)) (ResL.nil)) (hq := by exact ⟨rfl, rfl⟩)
end Go.Proofs.YtcglabmlhljkmaaGreat
end
section
/- tree: the laws' grows: the walk. -/
namespace Go.Proofs.YtcglabmlhljkmaaGreat
open Go Go.RowKit Go.Gv
set_option linter.unusedVariables false
set_option linter.unusedSimpArgs false

theorem gX_alk : Alk [.int .i64 0, .int .i64 0, .int .i64 0, .int .i64 0, .int .i64 0, .int .i64 0, .int .i64 0, .int .u32 0] (entL gX) := ⟨rfl, rfl, rfl, rfl, rfl, rfl, rfl, rfl, trivial⟩
set_option maxHeartbeats 8000000 in
theorem law13_grows : SpecR Tryz.prog 11 #[] (fun _ => True) (fun r H' => r = .bool true ∧ H' = []) := by
  refine SpecR.of (fun w _ => ?_)
  refine Calls.enter Tryz.func11 rfl rfl rfl (St.rebase w) ?_
  simp only [argSlots]
  obtain ⟨v', t, hG1, hi1, hok, hW, hfg, hfd, hG2, hi2, hfree⟩ := grow_facts
  have hb := law13_begin 20 (by decide)
  have h20 : ((20 : Nat) : Int) = 20 := rfl
  rw [h20] at hb
  refine Ws ?_
  refine Zcr hb ?_
  rintro r1 H1 ⟨pv, d, rfl, rfl⟩
  refine Wap ?_
  refine Ws ?_
  refine Zz 17 false ?_
  refine Ws ?_
  refine Zbu (ys := [.int .i64 1, .int .i64 5]) ?_
  refine Ws ?_
  refine Zbu (ys := entL gX) ?_
  refine Ws ?_
  refine Zal fun b4 => ?_
  refine Ws ?_
  refine ZSa (ys := entL gX) ?_ (h1 := by exact entL_one5 gX)
  have hin1 := view_Insert pv d (v0 20) 0 0 gX (v0_ok (by decide)) hG1
  have hin2 := view_Insert pv d v' (t : Int) 1 gX hok hG2
  have hfi := tree_Find pv d v' (t : Int) 1 gX.key hok (by omega) (by decide) hfg
  have hmp := view_Map pv d v' hok
  rw [hi1] at hin1
  rw [hi2] at hin2
  rw [hfd] at hfi
  dsimp only at hin1 hin2 hfi
  have hz0 : ((0 : Nat) : Int) = 0 := rfl
  have hz1 : ((1 : Nat) : Int) = 1 := rfl
  rw [hz0] at hin1
  refine Ws ?_
  refine Zla (cs := entL gX) ?_ (hl := by rfl)
  refine Zv 22 (rootV 0 0) ?_ (hv := by rfl)
  refine Ws ?_
  refine Zd hin1 ?_
  refine Ws ?_
  refine Zal fun b5 => ?_
  refine Ws ?_
  refine ZSa (ys := rootL (t : Int) ((1 : Nat) : Int)) ?_ (h1 := by exact two_int _ _)
  refine Ws ?_
  refine Zla (cs := rootL (t : Int) ((1 : Nat) : Int)) ?_ (hl := by rfl)
  refine Ws ?_
  refine Zlg ?_ (hv := by exact key_cells gX) (hl := by rfl)
  refine Ws ?_
  refine Zd hfi ?_
  refine Ws ?_
  refine Zal fun b7 => ?_
  refine Ws ?_
  refine ZSa (ys := entL gX) ?_ (h1 := by exact entL_one5 gX)
  refine Ws ?_
  refine Zla (cs := rootL (t : Int) ((1 : Nat) : Int)) ?_ (hl := by rfl)
  refine Ws ?_
  refine Zla (cs := entL gX) ?_ (hl := by rfl)
  refine Ws ?_
  refine Zd hin2 ?_
  refine Ws ?_
  refine Zal fun b9 => ?_
  refine Ws ?_
  refine ZSa (ys := rootL 0 ((0 : Nat) : Int)) ?_ (h1 := by exact two_int _ _)
  refine Ws ?_
  refine Zz 44 true ?_
  refine Ws ?_
  refine Zz 48 true ?_
  refine Ws ?_
  refine Zz 53 true ?_
  refine Ws ?_
  refine Zla (cs := entL gX) ?_ (hl := by rfl)
  refine Ws ?_
  refine Zla (cs := entL gX) ?_ (hl := by rfl)
  refine Ws ?_
  refine ZoeqlA (r := true) ?_ (hax := by exact gX_alk) (hay := by exact gX_alk) (hr := by exact ⟨fun _ => rfl, fun _ => rfl⟩)
  refine Ws ?_
  refine Zz 58 true ?_
  refine Ws ?_
  refine Zz 62 true ?_
  refine Ws ?_
  refine Zd hmp ?_
  refine Ws ?_
  refine Zcv (bm_Free v'.m hok.m) ?_
  rw [hfree]
  refine Ws ?_
  refine Zz 0 true ?_
  exact Zfr (hq := by simp only [tupled]; skip)
end Go.Proofs.YtcglabmlhljkmaaGreat
end
section
/- From a law's walk to its row: what the row's frame asks. -/
namespace Go.Gv
open Go Go.RowKit
set_option linter.unusedVariables false

theorem below_of_st {w w' : World} {H : List Atom} (h : St w w' (H ++ [Ex (hp w)])) : Below w.heap.size w w' :=
  ⟨h.1.os, h.1.tape, h.1.output, h.1.size, (Sat.exhp (av := fun _ => True) h.2).1⟩

/-- what a law's walk shows -/
def LawR (w : World) : Value → World → Prop := fun v w' => ∃ H', (fun v (_ : List Atom) => v = .bool true) v H' ∧ St w w' (H' ++ [Ex (hp w)])

theorem law_calls {P : Program} {f : FuncId} {args : Array Value} {w : World} (h : Calls P f args w (Ret (LawR w))) : Calls P f args w fun e w' => e = .returned (.bool true) ∧ Below w.heap.size w w' :=
  h.mono fun e w' he => by
    cases e with
    | returned v => obtain ⟨H', rfl, hs⟩ := he; exact ⟨rfl, below_of_st hs⟩
    | panicked c => exact he.elim
    | outgrown => exact he.elim

theorem fin_law {H R F : List Atom} (w : World) (p : Pulls H (F ++ [Ex (hp w)]) R) (v : Value) (hv : v = .bool true) : ∀ w', St w w' H → LawR w v w' := fun w' hw => ⟨F, hv, (hw.pulls p).1, Sat.left (hw.pulls p).2⟩

end Go.Gv
end
section
/- tree: TreeMaps: the walk. -/
namespace Go.Proofs.YtcglabmlhljkmaaGreat
open Go Go.RowKit Go.Gv
set_option linter.unusedVariables false
set_option linter.unusedSimpArgs false

structure MPS (N : Nat) where
  j : Nat
  m : BM
  U : List Nat
  i : Inv 100 m U
  hl : U.length ≤ j
  hj : j ≤ 30
  hN : j ≤ N
structure MPT (U : List Nat) (K : Nat) where
  i : Nat
  v : VS
  a : Int
  h : Nat
  ti : TI 100 mu8 [] U v a h (eL i)
  hW : v.S.W.length ≤ 60 * i
  hi : i ≤ K
theorem bmL_mark (m : BM) (t : Nat) : (bmL m).set (0 + 1 + t * 1) (.bool true) = bmL ⟨m.p, m.u.set t true⟩ := by
  rw [show 0 + 1 + t * 1 = t + 1 by omega, bmL, bmL, List.set_cons_succ, List.map_set]
theorem bmL_use (m : BM) (t : Nat) (h : m.u.length = 512) (ht : t < 512) : (bmL m)[0 + 1 + t * 1]? = some (.bool (useAt m.u t)) := by
  rw [show 0 + 1 + t * 1 = t + 1 by omega, bmL, List.getElem?_cons_succ, List.getElem?_map, useAt, List.getD_eq_getElem?_getD, List.getElem?_eq_getElem (by omega)]; rfl
theorem bm_alk9 (m : BM) (h : m.u.length = 512) : Alk ([.int .i64 0] ++ List.replicate 512 (.bool false)) (bmL m) := ⟨rfl, Alk.rep (fun _ => rfl) 512 _ h⟩
theorem bmZ_L : ([.int .i64 0] ++ List.replicate 512 (Value.bool false)) = bmL ⟨0, List.replicate 512 false⟩ := by
  show Value.int .i64 0 :: List.replicate 512 (Value.bool false) = Value.int .i64 0 :: (List.replicate 512 false).map Value.bool
  rw [List.map_replicate]
set_option maxRecDepth 4000 in
set_option maxHeartbeats 32000000 in
theorem treeMaps_walk (x : Int) (v0v : Value) (l : List Int) (hli : ∀ n ∈ l, -9223372036854775808 ≤ n ∧ n ≤ 9223372036854775807) (w : World) (hr : RdW w v0v l.length (l.map (.int .i64))) :
    Calls Tryz.prog 4 #[.int .i64 x, v0v] w (Ret (LawR w)) := by
  have hlen := hr.le
  refine Calls.enter Tryz.func4 rfl rfl rfl (St.rebase w) ?_
  simp only [argSlots]
  have h100 : 8 ≤ 100 ∧ 100 ≤ 512 := by decide
  obtain ⟨K, hK⟩ : ∃ K : Nat, (K : Int) = x % 18446744073709551616 % 60 := ⟨(x % 18446744073709551616 % 60).toNat, by omega⟩
  have hK60 : K < 60 := by omega
  refine Ws ?_
  refine Zcr (law13_begin 100 h100) ?_
  rintro r1 H1 ⟨pv, d, rfl, rfl⟩
  refine Wap ?_
  refine Ws ?_
  refine Zcv law13_grows ?_
  refine Ws ?_
  refine Zz 28 false ?_
  refine Ws ?_
  refine Zz 31 false ?_
  refine Ws ?_
  refine Zcv (bm_New 100) ?_
  refine Ws ?_
  refine Zal fun b8 => ?_
  refine Ws ?_
  refine ZSa (ys := bmL (newM 100)) ?_ (hl := by exact bmL_length _ (newM_length _)) (hc := by exact z513g) (h1 := by exact bmL_one _)
  refine Ws ?_
  (refine Wl (α := MPS l.length) (fun z => l.length - z.j) (fun z => [(0, .int .i64 x), (1, v0v), (5, .pointer (some ⟨pv, 0, none⟩)), (6, .pointer (some ⟨d, 0, none⟩)), (8, .pointer (some ⟨b8, 0, none⟩)), (9, .int .i64 (z.j : Int))]) (fun z => [blk b8 60 (bmL z.m), blk pv 146 (viewL d (v0 100)), DSK d (v0 100).S, Ex (hp w)]) ⟨0, newM 100, [], Inv.new 100 h100, Nat.le_refl _, Nat.zero_le _, Nat.zero_le _⟩ ?_; rintro ⟨j, m, U, hi, hl, hj, hN⟩ mx hmx; (try dsimp only at hmx ⊢))
  have hml := hi.len
  refine Ws ?_
  refine Zlr2 (hr := hr) ?_
  refine Ws ?_
  by_cases hc : j < l.length ∧ j < 30
  · obtain ⟨hjl, hj30⟩ := hc
    have h1i : ((l[j]'hjl) ≤ 9223372036854775807 ∧ -9223372036854775808 ≤ (l[j]'hjl)) := ⟨(hli _ (List.getElem_mem hjl)).2, (hli _ (List.getElem_mem hjl)).1⟩
    have hget : (l.map (Value.int .i64))[j]? = some (.int .i64 (l[j]'hjl)) := by simp [hjl]
    obtain ⟨y, hy⟩ : ∃ y, y = l[j]'hjl := ⟨_, rfl⟩
    rw [← hy] at hget h1i
    obtain ⟨t, ht⟩ : ∃ t : Nat, (t : Int) = 2 + y % 18446744073709551616 % 98 := ⟨(2 + y % 18446744073709551616 % 98).toNat, by omega⟩
    have ht2 : 2 ≤ t ∧ t < 100 := by omega
    obtain ⟨U', hi', hl'⟩ := mark_step hi h100 ht2
    have hl2 : U'.length ≤ j + 1 := by omega
    have hj2 : j + 1 ≤ 30 := hj30
    have hN2 : j + 1 ≤ l.length := hjl
    refine Zz 37 true ?_ (hi := by exact decide_eq_true (by omega))
    refine Ws ?_
    refine Zz 40 true ?_ (hi := by exact decide_eq_true (by omega))
    refine Ws ?_
    refine Zir (hr := hr) (j := j) ?_ (hl := by rw [List.length_map]; omega)
    refine Ws ?_
    refine Zlr (hr := hr) (j := j * 1) ?_ (hv := by exact (by rw [Nat.mul_one]; exact hget))
    refine Ws ?_
    have hty : (2 + y % 18446744073709551616 % 98).toNat = t := by omega
    refine Zv 52 (.pointer (some ⟨b8, 0 + 1 + t * 1, none⟩)) ?_ (hv := by rw [hty])
    refine ZS ?_ (hi := by rw [bmL_len hml]; omega)
    refine Zat (blk b8 _ _) (blk b8 60 (bmL ⟨m.p, m.u.set t true⟩)) ?_ (e := by rw [bmL_mark m t])
    refine Ws ?_
    refine Zi 9 ((j + 1 : Nat) : Int) ?_ (hi := by omega)
    exact Zag ⟨j + 1, ⟨m.p, m.u.set t true⟩, U', hi', hl2, hj2, hN2⟩
  · have hU30 : U.length ≤ 30 := Nat.le_trans hl hj
    have hright := hi.right h100
    have hvok : (v0 100).ok := v0_ok h100
    have hmp : m.p = (v0 100).m.p := by rw [hi.p]; exact (newM_p 100 h100).symm
    obtain ⟨v1, hv1⟩ : ∃ v1 : VS, v1 = ⟨(v0 100).S, (v0 100).gen, m, (v0 100).old⟩ := ⟨_, rfl⟩
    have ti0 : TI 100 mu8 [] U v1 0 0 (eL 0) := by
      rw [hv1]
      exact ⟨⟨h100, DS.new_on 100 h100.2, DS.new_len 100, by show 1 < 18446744073709551616; decide, hi, Inv.new 100 h100, fun x hx => by cases hx⟩, .inl rfl, rfl, ⟨List.Pairwise.nil, fun e he => by cases he⟩, by decide⟩
    have hv1m : v1.m = m := by rw [hv1]
    have hv1ok := ti0.vg.ok
    have hW0 : v1.S.W.length ≤ 60 * 0 := by rw [hv1]; exact Nat.le_refl 0
    have hsm := view_SetMap pv d (v0 100) m hvok hml hright hmp
    rw [← hv1] at hsm
    have hmap := view_Map pv d v1 hv1ok
    rw [hv1m] at hmap
    have h50 : (newM 50).u.length = 512 := newM_length _
    have hr50 : rightM (newM 50) = true := new_right 50 (by decide)
    have hp50 : (newM 50).p = 50 := newM_p 50 (by decide)
    have hno1 := view_SetMap_no pv d v1 (newM 50) h50 (.inr (by rw [hp50, hv1m, hi.p]; decide))
    have hno2 := view_SetMap_no pv d v1 ⟨0, List.replicate 512 false⟩ List.length_replicate (.inr (by rw [hv1m, hi.p]; decide))
    have hn0 : ∀ p, p ∈ pgN v1.S 0 0 → False := fun p hp => by cases hp
    by_cases hjl : j < l.length
    have hj30 : ¬ j < 30 := fun c => hc ⟨hjl, c⟩
    refine Zz 37 true ?_ (hi := by exact decide_eq_true (by omega))
    refine Ws ?_
    refine Zz 40 false ?_ (hi := by exact decide_eq_false (by omega))
    rotate_left
    refine Zz 37 false ?_ (hi := by exact decide_eq_false (by omega))
    rotate_left
    all_goals
      refine Ws ?_
      refine Zla (cs := bmL m) ?_ (hl := by exact bmL_len hml)
      refine Ws ?_
      refine Zd hsm ?_
      refine Ws ?_
      refine Wm [blk b8 60 (bmL m)] ?_
      refine Wq [0] ?_
      refine Zm 2 (h := fun _ _ qK => by exact Zla (cs := bmL m) qK (hl := by exact bmL_len hml)) (k := ?_)
      refine ZA 1 ?_
      refine Zd hmap ?_
      refine Zw ?_
      refine Zm 3 (h := fun _ _ qK => by exact ZoneqA (r := true) qK (hax := by exact bm_alk9 _ hml) (hay := by exact bm_alk9 _ hml) (hr := by exact ⟨fun _ => rfl, fun _ => rfl⟩)) (k := ?_)
      refine ZE ?_
      refine Zz 59 false ?_
      refine Ws ?_
      refine Zcv (bm_New 50) ?_
      refine Ws ?_
      refine Zd hno1 ?_
      refine Ws ?_
      refine Zv 64 (bmV ⟨0, List.replicate 512 false⟩) ?_ (hv := by exact congrArg (fun l => Value.agg l.toArray) bmZ_L)
      refine Zd hno2 ?_
      refine Ws ?_
      refine Wm [blk b8 60 (bmL m)] ?_
      refine Wq [0] ?_
      refine Zm 2 (h := fun _ _ qK => by exact Zla (cs := bmL m) qK (hl := by exact bmL_len hml)) (k := ?_)
      refine ZA 1 ?_
      refine Zd hmap ?_
      refine Zw ?_
      refine Zm 3 (h := fun _ _ qK => by exact ZoneqA (r := true) qK (hax := by exact bm_alk9 _ hml) (hay := by exact bm_alk9 _ hml) (hr := by exact ⟨fun _ => rfl, fun _ => rfl⟩)) (k := ?_)
      refine ZE ?_
      refine Zz 69 false ?_
      refine Ws ?_
      refine Zal fun b10 => ?_
      refine Ws ?_
      refine ZSa (ys := rootL 0 ((0 : Nat) : Int)) ?_ (h1 := by exact two_int _ _)
      refine Zat (DSK d _) (DSK d v1.S) ?_ (e := by rw [hv1])
      refine Ws ?_
      (refine Wl (α := MPT U K) (fun z => K - z.i) (fun z => [(0, .int .i64 x), (5, .pointer (some ⟨pv, 0, none⟩)), (6, .pointer (some ⟨d, 0, none⟩)), (8, .pointer (some ⟨b8, 0, none⟩)), (10, .pointer (some ⟨b10, 0, none⟩)), (11, .int .i64 (z.i : Int))]) (fun z => [blk b10 43 (rootL z.a (z.h : Int)), blk b8 60 (bmL m), blk pv 146 (viewL d z.v), DSK d z.v.S, Ex (hp w)]) ⟨0, v1, 0, 0, ti0, hW0, Nat.zero_le _⟩ ?_; rintro ⟨i, v, a, h, ti, hW, hi5⟩ mx hmx; (try dsimp only at hmx ⊢))
      refine Ws ?_
      refine Zz 76 (decide (i < K)) ?_ (hi := by exact decide_eq_decide.2 (by omega))
      (refine Wcd ?_ ?_ <;> intro hc2)
      · have hi2 : i < 60 := by omega
        have hi3 : i + 1 ≤ K := hc2
        obtain ⟨hG, v', t, H, e, ti', hW'⟩ := maps_step ti hU30 hi2 hW
        have hins := view_Insert pv d v a h (eF i) ti.vg.ok hG
        rw [e] at hins
        dsimp only at hins
        have hent := law13_entry 0 0 ((7 * i : Nat) : Int) 0 1 (by omega)
        rw [eF_low hi2] at hent
        refine Ws ?_
        refine Wm [blk b10 43 (rootL a (h : Int))] ?_
        refine Wq [0] ?_
        refine Zm 1 (h := fun _ _ qK => by exact Zla (cs := rootL a (h : Int)) qK (hl := by rfl)) (k := ?_)
        refine Wq [2, 3] ?_
        refine ZMi 83 ((7 * i : Nat) : Int) ?_ (hi := by omega)
        refine Zm 4 (h := fun _ _ qK => by exact Zbu (ys := [.int .i64 0, .int .i64 0, .int .i64 ((7 * i : Nat) : Int), .int .i64 0, .int .i64 1]) qK) (k := ?_)
        refine Zm 5 (h := fun _ _ qK => by exact Zcv hent qK) (k := ?_)
        refine Zm 6 (h := fun _ _ qK => by exact Zcv (law12_Entry (eF i)) qK) (k := ?_)
        refine ZA2 7 11 ?_ ?_
        refine Zd hins ?_
        refine Zw ?_
        refine Wq [8, 9, 10] ?_
        refine ZA 11 ?_
        refine Zal fun b12 => ?_
        refine Zw ?_
        refine ZA 12 ?_
        refine ZSa (ys := rootL (t : Int) (H : Int)) ?_ (h1 := by exact two_int _ _)
        refine Zw ?_
        rotate_left
        refine Zal fun b12 => ?_
        refine Zw ?_
        refine ZA 7 ?_
        refine Zd hins ?_
        refine Zw ?_
        refine Wq [8, 9, 10] ?_
        refine ZA 12 ?_
        refine ZSa (ys := rootL (t : Int) (H : Int)) ?_ (h1 := by exact two_int _ _)
        refine Zw ?_
        rotate_left
        all_goals
          refine Wq [13] ?_
          refine ZE ?_
          refine Ws ?_
          refine Zz 91 false ?_
          refine Ws ?_
          refine Zla (cs := rootL (t : Int) (H : Int)) ?_ (hl := by rfl)
          refine Ws ?_
          refine ZSa (ys := rootL (t : Int) (H : Int)) ?_ (h1 := by exact two_int _ _)
          refine Ws ?_
          refine Zi 11 ((i + 1 : Nat) : Int) ?_ (hi := by omega)
          exact Zag ⟨i + 1, v', (t : Int), H, ti', hW', hi3⟩
      · have hvk := ti.vg.ok
        have hEl : (eL i).length < 64 := by rw [eL_len]; omega
        obtain ⟨hh2, hpl⟩ := ti_few ti hEl
        have hadp : adP (wkP v.S h a) = (pgN v.S h a).map (fun p : Nat => (p : Int)) := by
          rcases ti.g with hz | hz
          · rw [hz]; rfl
          · exact adP_pg v.S 100 mu8 h (rmin h) a hz
        have hpa := tree_Pages pv d v hvk (by omega) h a ti.h5 (ti.g.imp id (fun tg => tk_wkG h100.2 h (rmin h) a tg)) _ hadp (fun hne => by
          rw [List.length_map]
          obtain ⟨g, rfl⟩ : ∃ g, h = g + 1 := ⟨h - 1, by omega⟩
          exact ⟨by rw [pgN]; exact Nat.succ_pos _, by omega⟩)
        obtain ⟨Z, hZ⟩ : ∃ Z, Z = sortI ((pgN v.S h a).map (fun p : Nat => (p : Int))) := ⟨_, rfl⟩
        have hZl : ((pgN v.S h a).map (fun p : Nat => (p : Int))).length = Z.length := by rw [hZ, sortI_len]
        have hZm : ∀ z ∈ Z, ∃ p : Nat, z = (p : Int) ∧ p < 512 ∧ useAt m.u p = false := fun z hz => by
          rw [hZ, (sortI_perm _).mem_iff] at hz
          obtain ⟨p, hp, rfl⟩ := List.mem_map.1 hz
          have hrng := ti.vg.m.rng p (List.mem_append_left _ hp)
          refine ⟨p, rfl, by omega, ?_⟩
          cases hu : useAt m.u p with
          | false => rfl
          | true =>
            rcases (hi.use p).1 hu with q | q
            · omega
            · exact ((List.nodup_append.1 ti.vg.m.nodup).2.2 p hp p q rfl).elim
        have hZb : Z.length ≤ 1000 := by rw [← hZl, List.length_map]; omega
        rw [← hZ, hZl] at hpa
        have hA := ti.vg.len
        have hon := tree_Open_no d v.S 1 (newM 50) m hvk.S h50 hr50 hml hright (by rw [hp50, hA]; decide)
        refine Ws ?_
        refine Zla (cs := rootL a (h : Int)) ?_ (hl := by rfl)
        refine Ws ?_
        refine Zcs hpa ?_
        rintro r8 H8 ⟨A8, c8, rfl, rfl⟩
        refine Wap ?_
        refine Ws ?_
        (refine Wl (α := { q : Nat // q ≤ Z.length }) (fun z => Z.length - z.1) (fun z => [(6, .pointer (some ⟨d, 0, none⟩)), (8, .pointer (some ⟨b8, 0, none⟩)), (14, .slice A8 Z.length c8), (15, .int .i64 0), (16, .int .i64 (z.1 : Int))]) (fun z => [own 3 1 (.slice A8 Z.length c8) Z.length (NL Z), blk b8 60 (bmL m), DSK d v.S, Ex (hp w)]) ⟨0, Nat.zero_le _⟩ ?_; rintro ⟨q, hq⟩ mx hmx; (try dsimp only at hmx ⊢))
        refine Ws ?_
        (refine Wcd ?_ ?_ <;> intro hc3)
        · have hql : q < Z.length := by omega
          have hql' : q + 1 ≤ Z.length := hql
          obtain ⟨p, hp, hp5, hpu⟩ := hZm (Z[q]'hql) (List.getElem_mem hql)
          have hNq : (NL Z)[q]? = some (.int .i64 (p : Int)) := by rw [nl_get, List.getElem?_eq_getElem hql, hp]; rfl
          refine Ws ?_
          refine Zix (j := q) ?_ (hj := by rfl) (hlt := by exact hql)
          refine Ws ?_
          refine Zlo (j := q * 1) ?_ (hv := by exact (by rw [Nat.mul_one]; exact hNq))
          refine Ws ?_
          refine Zl (v := .bool false) ?_ (hv := by rw [← hpu]; exact bmL_use m p hml hp5)
          refine Ws ?_
          refine Zi 16 ((q + 1 : Nat) : Int) ?_ (hi := by omega)
          exact Zag ⟨q + 1, hql'⟩
        · refine Ws ?_
          refine Wm [blk b8 60 (bmL m)] ?_
          refine Zm 0 (h := fun _ _ qK => by exact Zcv crc_New qK) (k := ?_)
          refine Wq [1] ?_
          refine Zm 2 (h := fun _ _ qK => by exact Zcv (bm_New 50) qK) (k := ?_)
          refine Zm 3 (h := fun _ _ qK => by exact Zla (cs := bmL m) qK (hl := by exact bmL_len hml)) (k := ?_)
          refine ZA 4 ?_
          refine Zd hon ?_
          refine Zw ?_
          refine Wq [5, 6, 7, 8, 9] ?_
          refine ZE ?_
          refine Ws ?_
          refine Wm [blk b8 60 (bmL m)] ?_
          refine Zm 0 (h := fun _ _ qK => by exact Zcv crc_New qK) (k := ?_)
          refine Zm 1 (h := fun _ _ qK => by exact Zla (cs := bmL m) qK (hl := by exact bmL_len hml)) (k := ?_)
          refine Zm 2 (h := fun _ _ qK => by exact Zla (cs := bmL m) qK (hl := by exact bmL_len hml)) (k := ?_)
          refine Zm 3 (h := fun _ _ qK => by exact Zcv (tree_Open_nil 1 m m) qK) (k := ?_)
          refine Wq [4, 5, 6, 7, 8] ?_
          refine ZE ?_
          refine Ws ?_
          refine Zz 129 true ?_
          refine Ws ?_
          refine Zz 133 true ?_
          refine Ws ?_
          (first | with_reducible apply Tri.fin | with_reducible apply Tri.finN)
          case hr => rfl
          case h => exact ResL.cons (Res1.tmp rfl) ResL.nil
          exact fin_law (F := []) w Wps _ rfl
end Go.Proofs.YtcglabmlhljkmaaGreat
end
section
/- What came in, as it reads: from the reading of the row's frame to cells. -/
namespace Go.Gv
open Go Go.RowKit
set_option linter.unusedVariables false
set_option linter.unusedSimpArgs false

/-- cells that read as a type says: numbers, truths, texts, arrays, structs, and slices of such -/
def Rds (P : Program) (W : World) : Nat → TypeId → List Value → Prop
  | 0, _, _ => False
  | f + 1, t, cs => match P.underlying t with
    | some .bool => ∃ b, cs = [.bool b]
    | some (.int k) => ∃ n, cs = [.int k n] ∧ k.min ≤ n ∧ n ≤ k.max
    | some .string => ∃ s, cs = [.string s] ∧ s.size ≤ maxLen
    | some (.slice e) => cs = [.slice none 0 0] ∨ ∃ a len cap, cs = [.slice (some a) len cap] ∧ len ≤ cap ∧ cap ≤ maxLen ∧ ∀ i, i < len → ∃ ys, ys.length = P.cellsOf e ∧ (∀ j, j < P.cellsOf e → W.cell? ((a.add (i * P.cellsOf e)).add j) = ys[j]?) ∧ Rds P W f e ys
    | some (.struct fs) => cs.length = P.cellsOf t ∧ ∀ x ∈ fs.toList, Rds P W f x.type ((cs.drop x.offset).take (P.cellsOf x.type))
    | some (.array n e) => cs.length = P.cellsOf t ∧ ∀ i, i < n → Rds P W f e ((cs.drop (i * P.cellsOf e)).take (P.cellsOf e))
    | _ => True

theorem mapM_all {α β : Type} {g : α → Option β} : ∀ {l : List α} {ys : List β}, l.mapM g = some ys → ∀ x ∈ l, ∃ y, g x = some y
  | [], _, _, x, hx => by simp at hx
  | a :: l, ys, h, x, hx => by
    rw [List.mapM_cons] at h
    simp only [bind, Option.bind_eq_some_iff, pure, Option.some.injEq] at h
    obtain ⟨y, h1, ys', h2, _⟩ := h
    rcases List.mem_cons.1 hx with rfl | hx
    · exact ⟨y, h1⟩
    · exact mapM_all h2 x hx

theorem rds_of {H : Type} {enc : TypeId × Value → H} {P : Program} {W : World} {sp : Nat → Bool} : ∀ (fuel : Nat) (t : TypeId) (cs : List Value) (x : DataW H × List MemPlace), DataW.trod enc P W 0 sp true fuel t cs = some x → Rds P W fuel t cs
  | 0, _, _, _, h => by simp [DataW.trod] at h
  | f + 1, t, cs, x, h => by
    have ih := rds_of (H := H) (enc := enc) (P := P) (W := W) (sp := sp) f
    unfold Rds
    cases hu : P.underlying t with
    | none => trivial
    | some k =>
      cases k with
      | bool =>
        match cs with
        | [] => simp [DataW.trod, hu] at h
        | [v] => cases v <;> simp [DataW.trod, hu] at h ⊢
        | v :: u :: cs => cases v <;> simp [DataW.trod, hu] at h
      | int k =>
        match cs with
        | [] => simp [DataW.trod, hu] at h
        | [v] =>
          cases v <;> simp [DataW.trod, hu] at h
          exact ⟨_, by rw [h.1.1], by simpa [Lit.wf] using h.1.2⟩
        | v :: u :: cs => cases v <;> simp [DataW.trod, hu] at h
      | string =>
        match cs with
        | [] => simp [DataW.trod, hu] at h
        | [v] =>
          cases v <;> simp [DataW.trod, hu] at h ⊢
          exact h.1
        | v :: u :: cs => cases v <;> simp [DataW.trod, hu] at h
      | slice e =>
        rcases DataW.trod_slice hu h with h0 | ⟨a, len, cap, elems, rest, n, hn, rfl, _, hb, hl, hm, hlen, hel, _, _⟩
        · exact .inl h0.1
        · refine .inr ⟨a, len, cap, rfl, hl, hm, fun i hi => ?_⟩
          have hi' : elems[i]? = some (elems[i]'(by omega)) := List.getElem?_eq_getElem _
          have h1 := hel i hi
          rw [hi', Option.bind_eq_some_iff] at h1
          obtain ⟨ys, hys, hy⟩ := h1
          obtain ⟨_, hl2, hcell⟩ := World.cells?_some hys
          have hfn : f = n := by omega
          subst hfn
          exact ⟨ys, hl2, hcell, ih e ys _ hy⟩
      | struct fs =>
        have h2 : cs.length = P.cellsOf t ∧ ∃ xs, fs.toList.mapM (fun f' => DataW.trod enc P W 0 sp true f f'.type ((cs.drop f'.offset).take (P.cellsOf f'.type))) = some xs := by
          unfold DataW.trod at h
          simp only [hu] at h
          split at h
          · rename_i hl
            refine ⟨hl, ?_⟩
            rw [Option.map_eq_some_iff] at h
            obtain ⟨xs, h, _⟩ := h
            exact ⟨xs, h⟩
          · cases h
        obtain ⟨hl, xs, hxs⟩ := h2
        exact ⟨hl, fun y hy => by obtain ⟨z, hz⟩ := mapM_all hxs y hy; exact ih _ _ _ hz⟩
      | array n e =>
        have h2 : cs.length = P.cellsOf t ∧ ∃ xs, (List.range n).mapM (fun i => DataW.trod enc P W 0 sp true f e ((cs.drop (i * P.cellsOf e)).take (P.cellsOf e))) = some xs := by
          unfold DataW.trod at h
          simp only [hu] at h
          split at h
          · rename_i hl
            refine ⟨hl, ?_⟩
            rw [Option.map_eq_some_iff] at h
            obtain ⟨xs, h, _⟩ := h
            exact ⟨xs, h⟩
          · cases h
        obtain ⟨hl, xs, hxs⟩ := h2
        exact ⟨hl, fun i hi => by obtain ⟨z, hz⟩ := mapM_all hxs i (List.mem_range.2 hi); exact ih _ _ _ hz⟩
      | _ => trivial

theorem cell_obj {W : World} {b : Addr} {u : Value} (hc : W.cell? b = some u) : ∃ cs T fr, W.heap[b.block]? = some (.cells cs T fr) ∧ b.spot = none ∧ cs[b.off]? = some u := by
  unfold World.cell? at hc
  cases hq : W.heap[b.block]? with
  | none => simp [hq] at hc
  | some o =>
    cases o with
    | cells cs T fr =>
      simp only [hq] at hc
      split at hc
      · cases hc
      · rename_i hs
        exact ⟨cs, T, fr, rfl, by simpa using hs, hc⟩
    | _ => simp [hq] at hc

theorem flat_get {α : Type} {s : Nat} (hs : 0 < s) : ∀ {Ls : List (List α)} {j : Nat} {u : α}, (∀ ys ∈ Ls, ys.length = s) → Ls.flatten[j]? = some u → ∃ ys, Ls[j / s]? = some ys ∧ ys[j % s]? = some u
  | [], j, u, _, h => by simp at h
  | ys :: Ls, j, u, hl, h => by
    rw [List.flatten_cons, List.getElem?_append] at h
    have hy := hl ys (by simp)
    split at h
    · rename_i hj
      rw [hy] at hj
      exact ⟨ys, by rw [Nat.div_eq_of_lt hj]; rfl, by rw [Nat.mod_eq_of_lt hj]; exact h⟩
    · rename_i hj
      rw [hy] at hj h
      obtain ⟨zs, h1, h2⟩ := flat_get hs (fun zs hz => hl zs (by simp [hz])) h
      have e1 : j / s = (j - s) / s + 1 := by
        rw [← Nat.sub_add_cancel (Nat.not_lt.1 hj), Nat.add_div_right _ hs, Nat.add_sub_cancel]
      have e2 : j % s = (j - s) % s := by
        rw [← Nat.sub_add_cancel (Nat.not_lt.1 hj), Nat.add_mod_right, Nat.add_sub_cancel]
      exact ⟨zs, by rw [e1]; exact h1, by rw [e2]; exact h2⟩

theorem choice_list {α : Type} {p : Nat → α → Prop} : ∀ n, (∀ i, i < n → ∃ y, p i y) → ∃ l : List α, l.length = n ∧ ∀ i y, l[i]? = some y → p i y
  | 0, _ => ⟨[], rfl, fun i y h => by simp at h⟩
  | n + 1, h => by
    obtain ⟨l, h1, h2⟩ := choice_list n (fun i hi => h i (by omega))
    obtain ⟨y, hy⟩ := h n (by omega)
    refine ⟨l ++ [y], by simp [h1], fun i z hz => ?_⟩
    rw [List.getElem?_append] at hz
    split at hz
    · exact h2 i z hz
    · rename_i hi
      have : i = n := by
        have := (List.getElem?_eq_some_iff.1 hz).1
        simp at this; omega
      subst this
      rw [h1, Nat.sub_self] at hz
      have e : y = z := by simpa using hz
      rw [← e]; exact hy

/-- a slice that came in: its elements, as cells -/
theorem rds_slice {P : Program} {W : World} {f : Nat} {t e : TypeId} {s : Nat} (hu : P.underlying t = some (.slice e)) (hs : P.cellsOf e = s) (hp : 0 < s) {a : Option Addr} {len cap : Nat} (h : Rds P W (f + 1) t [.slice a len cap]) :
    ∃ Ls : List (List Value), Ls.length = len ∧ (∀ ys ∈ Ls, ys.length = s ∧ Rds P W f e ys) ∧ RdW W (.slice a len cap) len Ls.flatten := by
  unfold Rds at h
  simp only [hu, hs] at h
  rcases h with h | ⟨a', len', cap', h1, h2, h3, h4⟩
  · simp only [List.cons.injEq, Value.slice.injEq, and_true] at h
    obtain ⟨rfl, rfl, rfl⟩ := h
    exact ⟨[], rfl, by simp, none, 0, rfl, ⟨Nat.le_refl _, Nat.zero_le _⟩, fun j u hu => by simp at hu⟩
  · simp only [List.cons.injEq, Value.slice.injEq, and_true] at h1
    obtain ⟨rfl, rfl, rfl⟩ := h1
    obtain ⟨Ls, l1, l2⟩ := choice_list len h4
    have hl : ∀ ys ∈ Ls, ys.length = s ∧ Rds P W f e ys := fun ys hy => by
      obtain ⟨i, hi⟩ := List.getElem?_of_mem hy
      exact ⟨(l2 i ys hi).1, (l2 i ys hi).2.2⟩
    refine ⟨Ls, l1, hl, some a', cap, rfl, ⟨h2, h3⟩, fun j u hj => ?_⟩
    obtain ⟨ys, q1, q2⟩ := flat_get hp (fun ys hy => (hl ys hy).1) hj
    have hcell := (l2 _ _ q1).2.1 (j % s) (Nat.mod_lt _ hp)
    rw [q2, Addr.add_add, Nat.mul_comm, Nat.div_add_mod] at hcell
    obtain ⟨cs, T, fr, g1, g2, g3⟩ := cell_obj hcell
    have hb : (a'.add j).block = a'.block := by unfold Addr.add; split <;> rfl
    rw [hb] at g1
    exact ⟨a', rfl, cs, T, fr, g1, g2, g3⟩
end Go.Gv
end
section
/- What came in: numbers, bytes, truths in a row; maps. -/
namespace Go.Gv
open Go Go.RowKit
set_option linter.unusedVariables false
set_option linter.unusedSimpArgs false

theorem flat_ints {k : IntKind} : ∀ {Ls : List (List Value)}, (∀ ys ∈ Ls, ∃ n, ys = [.int k n] ∧ k.min ≤ n ∧ n ≤ k.max) → ∃ l : List Int, l.length = Ls.length ∧ (∀ n ∈ l, k.min ≤ n ∧ n ≤ k.max) ∧ Ls.flatten = l.map (.int k)
  | [], _ => ⟨[], rfl, by simp, rfl⟩
  | ys :: Ls, h => by
    obtain ⟨l, h1, h2, h3⟩ := flat_ints (Ls := Ls) (fun zs hz => h zs (List.mem_cons_of_mem _ hz))
    obtain ⟨n, rfl, hn⟩ := h ys (by simp)
    exact ⟨n :: l, by simp [h1], fun x hx => by rcases List.mem_cons.1 hx with rfl | hx; exact hn; exact h2 x hx, by rw [List.flatten_cons, h3]; rfl⟩
theorem rds_int {P : Program} {W : World} {f : Nat} {t : TypeId} {k : IntKind} (hu : P.underlying t = some (.int k)) {cs : List Value} (h : Rds P W f t cs) : ∃ n, cs = [.int k n] ∧ k.min ≤ n ∧ n ≤ k.max := by
  cases f with
  | zero => exact h.elim
  | succ f => unfold Rds at h; simpa only [hu] using h
theorem rds_ints {P : Program} {W : World} {t e : TypeId} {k : IntKind} (hu : P.underlying t = some (.slice e)) (he : P.underlying e = some (.int k)) (hs : P.cellsOf e = 1) {a : Option Addr} {len cap : Nat} (h : ∃ f, Rds P W f t [.slice a len cap]) :
    ∃ l : List Int, l.length = len ∧ (∀ n ∈ l, k.min ≤ n ∧ n ≤ k.max) ∧ RdW W (.slice a len cap) len (l.map (.int k)) := by
  obtain ⟨f, h⟩ := h
  cases f with
  | zero => exact h.elim
  | succ f =>
    obtain ⟨Ls, h1, h2, h3⟩ := rds_slice hu hs (by omega) h
    obtain ⟨l, g1, g2, g3⟩ := flat_ints (k := k) (fun ys hy => rds_int he (h2 ys hy).2)
    exact ⟨l, by rw [g1, h1], g2, by rw [← g3]; exact h3⟩
end Go.Gv
end
