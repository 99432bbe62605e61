/- Texts of this claim, put together: TvWalk14, TvWalk5, TvWalk15, TvWalk16, TvWalk17, TfWalk2, GvLaw, TfFullWalk. -/
import Derived.Test.YtckdlfbbkemklaaZ09
import Derived.Test.YtckdlfbbkemklaaZ07
import Derived.Test.YtckdlfbbkemklaaZ01
import Derived.Test.YtckdlfbbkemklaaZ02
import Derived.Test.YtckdlfbbkemklaaZ08
section
/- tree: an entry more, below: the walk. -/
namespace Go.Proofs.Ytckdlfbbkemklaa
open Go Go.RowKit Go.Gv
set_option linter.unusedVariables false
set_option linter.unusedSimpArgs false

/-- an entry more, below -/
def insertT (pv d : Nat) (v : VS) (h : Nat) (a : Int) (x : ENT) : Prop :=
  Gv.Spec Try.prog 78 #[.pointer (some ⟨pv, 0, none⟩), .int .i64 a, .int .i64 (h : Int), entV x] [blk pv 194 (viewL d v), DSK d v.S]
    (fun r H' => ∃ (AZ : Option Addr) (cz : Nat) (VZ : List (Value × Value × Value)), r = .tuple #[.slice AZ VZ.length cz, .int .i64 ((inN h v a x).2.2 : Int)] ∧ VZ.length = (inN h v a x).2.1.length ∧ shp VZ
      ∧ H' = [blk pv 194 (viewL d (inN h v a x).1), DSK d (inN h v a x).1.S, own 33 4 (.slice AZ VZ.length cz) VZ.length (NDL (decide (h = 1)) VZ), manyRd (RDS VZ (inN h v a x).2.1)])
set_option maxHeartbeats 8000000 in
theorem insert_leaf (pv d : Nat) (v : VS) (a : Int) (x : ENT) (hv : v.ok) (hx : entR x) (hG : inG 1 v a x) : insertT pv d v 1 a x := by
  refine Gv.Spec.of (fun w h0 hw => ?_)
  refine Calls.enter Try.func78 rfl rfl rfl hw ?_
  simp only [argSlots]
  (try dsimp only [List.cons_append, List.nil_append])
  rw [inG] at hG
  obtain ⟨⟨ha, hl, he, hlf, hok, hE, hD, hgi⟩, hidx, _⟩ := hG
  have hidx := hidx rfl
  have hin := inN_leaf (x := x) he hgi
  obtain ⟨R0, hR0⟩ : ∃ R, R = inN 1 v a x := ⟨_, rfl⟩
  rw [← hR0] at hin ⊢
  have hNd := view_Node pv d v a true hv (by omega) ha
  have hd1 : decide ((0 : Nat) = 0) = true := rfl
  rw [hd1] at he hlf hok hE hD
  obtain ⟨hK0, hD0⟩ := hok
  obtain ⟨N, hN⟩ : ∃ N, N = rdN v.S a true := ⟨_, rfl⟩
  rw [← hN] at hNd he hlf hE hD hidx hin hK0 hD0
  have hK0 : N.K = [] := hK0
  have hD0 : N.D = [] := hD0
  have hgS := giN_S v a
  have hdk : DSK d v.S = DSK d (giN v a).1.S := by rw [hgS]
  have hgv := view_give pv d v a hv
  have hixr : (if idxE N.E x.key < N.E.length then (idxE N.E x.key : Int) else -1) = -1 := by rw [hidx, if_neg (by omega)]
  rw [hidx, List.take_length, List.drop_length] at hin
  (refine Tri.seq (Tri.region ?_); apply Tri.op; rfl)
  (first | (apply o_boxA; (case hx => rfl); (case hn => rfl); intro b7) | (apply o_box1; (case hx => rfl); (case h1 => rfl); (case hn => rfl); intro b7))
  (apply Tri.op; rfl; apply o_assign; rfl; rfl; apply Tri.op; rfl; apply o_assign; rfl; rfl; refine Tri.nil (Tri.thenN (Tri.seq (Tri.region ?_))); apply Tri.op; rfl; apply o_move; rfl; rfl; apply Tri.op; rfl; apply o_move; rfl; rfl; apply Tri.op; rfl; apply o_move; rfl; rfl; apply Tri.op; rfl; apply o_eql; rfl; rfl; rfl; apply Tri.op; rfl)
  ((with_reducible apply Tri.setb 20 (true)); (case h => rfl); (case hi => rfl))
  (apply o_callS (hs := hNd); (case hargs => (repeat first | exact evs.nil | (apply evs.cons; case a => rfl))); (case p => (repeat first | with_reducible constructor | constructor)); (case hn => rfl))
  rintro r1 H1 ⟨A, c, B, e, C, f, rfl, rfl⟩
  (try dsimp only [List.cons_append, List.nil_append])
  (apply Tri.op; rfl; apply o_move; rfl; rfl; apply Tri.op; rfl; apply o_extract; rfl; rfl; rfl; apply Tri.op; rfl; apply o_extract; rfl; rfl; rfl; apply Tri.op; rfl)
  (apply o_alloc; (case hn => rfl); intro b10)
  (apply Tri.op; rfl)
  (apply o_storeAll (ys := ndLL N.leaf (.slice A N.E.length c) (.slice B N.K.length e) (.slice C N.D.length f)); (case hx => rfl); (case hy => rfl); (case p => (with_reducible repeat constructor)); (case hl => rfl); (case hc => rfl); (case h1 => exact ndLL_one N.leaf A B C _ c _ e _ f))
  (apply Tri.op; rfl; apply o_assign; rfl; rfl; refine Tri.nil (Tri.thenN (Tri.seq (Tri.seq (Tri.region ?_)))); apply Tri.op; rfl; apply o_move; rfl; rfl; apply Tri.op; rfl; apply o_neq; rfl; rfl; rfl; refine Tri.nil (Tri.thenN ?_))
  ((with_reducible apply Tri.setb 25 (false)); (case h => rfl); (case hi => (rw [he]; rfl)))
  (apply Tri.condF; rfl; rfl; refine Tri.skip (Tri.thenN (Tri.seq (Tri.seq (Tri.region ?_)))); apply Tri.op; rfl; apply o_move; rfl; rfl; apply Tri.op; rfl; apply o_move; rfl; rfl; apply Tri.op; rfl)
  (apply o_callS (hs := hgv); (case hargs => (repeat first | exact evs.nil | (apply evs.cons; case a => rfl))); (case p => (repeat first | with_reducible constructor | constructor)); (case hn => rfl))
  rintro r2 H2 ⟨rfl, rfl⟩
  (try dsimp only [List.cons_append, List.nil_append])
  (apply Tri.op; rfl; apply o_assign; rfl; rfl; refine Tri.nil (Tri.thenN (Tri.seq (Tri.region ?_))); apply Tri.op; rfl; apply o_move; rfl; rfl; apply Tri.op; rfl; apply o_neq; rfl; rfl; rfl; refine Tri.nil (Tri.thenN ?_))
  ((with_reducible apply Tri.setb 31 (false)); (case h => rfl); (case hi => (rw [hgi]; rfl)))
  (apply Tri.condF; rfl; rfl; refine Tri.skip (Tri.thenN (Tri.seq (Tri.seq (Tri.region ?_)))); apply Tri.op; rfl; apply o_move; rfl; rfl; apply Tri.op; rfl; apply o_eql; rfl; rfl; rfl; refine Tri.nil (Tri.thenN ?_))
  ((with_reducible apply Tri.setb 34 (true)); (case h => rfl); (case hi => rfl))
  (apply Tri.condT; rfl; rfl; refine Tri.seq (Tri.region ?_); apply Tri.op; rfl; apply o_fieldAddr; rfl; rfl; apply Tri.op; rfl; apply o_load; rfl; (with_reducible repeat constructor); rfl; rfl; apply Tri.op; rfl)
  (apply o_makeFunc (vs := [.pointer (some ⟨b7, 0, none⟩)]); (case hc => exact ⟨rfl, trivial⟩); (case hn => rfl))
  (apply Tri.op; rfl)
  have hix := slices_IndexFuncE A c N.E x b7 (by omega)
  rw [hixr] at hix
  (apply o_callS (hs := hix); (case hargs => (repeat first | exact evs.nil | (apply evs.cons; case a => rfl))); (case p => (repeat first | with_reducible constructor | constructor)); (case hn => rfl))
  rintro r3 H3 ⟨rfl, rfl⟩
  (try dsimp only [List.cons_append, List.nil_append])
  (apply Tri.op; rfl; apply o_assign; rfl; rfl; refine Tri.nil (Tri.thenN (Tri.seq (Tri.seq (Tri.region ?_)))); apply Tri.op; rfl; apply o_move; rfl; rfl; apply Tri.op; rfl; apply o_lss; rfl; rfl; rfl; refine Tri.nil (Tri.thenN ?_))
  ((with_reducible apply Tri.setb 40 (true)); (case h => rfl); (case hi => rfl))
  (apply Tri.condT; rfl; rfl; refine Tri.region ?_; apply Tri.op; rfl; apply o_fieldAddr; rfl; rfl; apply Tri.op; rfl; apply o_load; rfl; (with_reducible repeat constructor); rfl; rfl; apply Tri.op; rfl; apply o_len; rfl; rfl; apply Tri.op; rfl; apply o_assign; rfl; rfl; refine Tri.nil (Tri.thenN (Tri.seq (Tri.region ?_))); apply Tri.op; rfl; apply o_fieldAddr; rfl; rfl; apply Tri.op; rfl; apply o_load; rfl; (with_reducible repeat constructor); rfl; rfl; apply Tri.op; rfl; apply o_move; rfl; rfl; apply Tri.op; rfl)
  (apply o_loadAll (cs := entL x); (case hx => rfl); (case p => exact (by (with_reducible repeat constructor))); (case hl => rfl); (case hn => rfl))
  (apply Tri.op; rfl)
  (apply o_litSl (ys := entL x); (case hp => (repeat first | exact pev.nil | (apply pev.cons; case a => rfl))); (case hm => rfl); (case hf => rfl); (case hn => rfl); intro v48)
  have hins := slices_InsEndEntry A N.E.length c v48 1 (EL N.E) (entL x) (by omega) (by decide) (entL_one x) rfl
  (apply Tri.op; rfl)
  (apply o_callS (hs := hins); (case hargs => (repeat first | exact evs.nil | (apply evs.cons; case a => rfl))); (case p => (repeat first | with_reducible constructor | constructor)); (case hn => rfl))
  rintro r4 H4 ⟨A4, a4, rfl, rfl⟩
  (try dsimp only [List.cons_append, List.nil_append])
  (apply Tri.op; rfl; apply o_fieldAddr; rfl; rfl; apply Tri.op; rfl)
  (apply o_store; (case hx => rfl); (case hy => rfl); (case h1 => rfl); (case p => (with_reducible repeat constructor)); (case hi => exact (by decide : 1 < 4)))
  ((with_reducible apply Tri.eqA (A := blk b10 _ _) (B := blk b10 33 (ndLL true (.slice A4 (N.E.length + 1) a4) (.slice B N.K.length e) (.slice C N.D.length f)))); (case p => (with_reducible repeat constructor)); (case e => (rw [hlf]; rfl)))
  obtain ⟨Z, hZ⟩ : ∃ Z : ND3, Z = ⟨N.E ++ x :: [], N.K, N.D⟩ := ⟨_, rfl⟩
  rw [← hZ] at hin
  have hZE : Z.E.length = N.E.length + 1 := by rw [hZ]; simp
  have hZL : EL N.E ++ entL x = EL Z.E := by
    rw [hZ]
    show _ = EL (N.E ++ [x])
    rw [EL_app]; simp [EL]
  have hZK : Z.K = N.K := by rw [hZ]
  have hZD : Z.D = N.D := by rw [hZ]
  have hZo : okN true Z := ⟨by rw [hZK]; exact hK0, by rw [hZD]; exact hD0⟩
  have hZs : szN true Z = N.E.length + 1 := hZE
  have hsp := node_Split true (szN true Z) Z (.slice A4 (N.E.length + 1) a4) (.slice B N.K.length e) (.slice C N.D.length f) hZo (Nat.le_refl _) (by omega)
  have hsq : splN true (szN true Z + 1) Z = splitN true Z := rfl
  ((with_reducible apply Tri.eqA (A := own 100 8 (.slice A4 (N.E.length + 1) a4) _ _) (B := own 100 8 (.slice A4 (N.E.length + 1) a4) (N.E.length + 1) (EL Z.E))); (case p => (with_reducible repeat constructor)); (case e => (rw [hZL])))
  (refine Tri.nil (Tri.thenN (Tri.seq (Tri.region ?_))); apply Tri.op; rfl)
  (apply o_loadAll (cs := ndLL true (.slice A4 (N.E.length + 1) a4) (.slice B N.K.length e) (.slice C N.D.length f)); (case hx => rfl); (case p => exact (by (with_reducible repeat constructor))); (case hl => rfl); (case hn => rfl))
  (apply Tri.op; rfl)
  (apply o_callR (hs := hsp); (case hargs => (repeat first | exact evs.nil | (apply evs.cons; case a => rfl))); (case hpre => exact fun w' hw' => ⟨by rw [hZE]; exact rdw_own (v := .slice A4 (N.E.length + 1) a4) (by (with_reducible repeat constructor)) w' hw', by rw [hZK]; exact rdw_own (v := .slice B N.K.length e) (by (with_reducible repeat constructor)) w' hw', by rw [hZD]; exact rdw_own (v := .slice C N.D.length f) (by (with_reducible repeat constructor)) w' hw'⟩); (case hn => rfl))
  rintro r5 H5 ⟨VZ, hVZ, hWZ, rfl⟩
  (try dsimp only [List.cons_append, List.nil_append])
  (refine Tri.shape (e := 33) (size := 4) (v := r5) (by (with_reducible repeat constructor)) ?_; rintro ⟨AZ, cz, rfl⟩)
  rw [hsq] at hVZ
  rw [hsq]
  (apply Tri.op; rfl; apply o_assign; rfl; rfl; apply Tri.op; rfl; apply o_assign; rfl; rfl; refine Tri.nil (Tri.thenN (Tri.ret (Tri.thenR ?_))))
  rw [hin, hdk]
  (apply Tri.fin; (case hr => rfl); (case h => exact ResL.cons (Res1.tmp rfl) (ResL.cons (Res1.tmp rfl) (ResL.nil))); (apply fin_R (Hn := [blk pv 194 (viewL d (giN v a).1), DSK d (giN v a).1.S, own 33 4 (.slice AZ VZ.length cz) VZ.length (NDL true VZ), manyRd (RDS VZ (splitN true Z))])); (case p => exact (by (repeat first | with_reducible constructor | constructor))); exact ⟨AZ, cz, VZ, rfl, hVZ, hWZ, rfl⟩)
set_option maxHeartbeats 8000000 in
theorem insert_step (pv d : Nat) (v : VS) (h : Nat) (a : Int) (x : ENT) (hv : v.ok) (hx : entR x) (hh : h ≤ 1000) (hG : inG (h + 2) v a x)
    (ih : insertT pv d (giN v a).1 (h + 1) ((rdN v.S a false).D.getD (childN (rdN v.S a false).K x.key) 0) x) : insertT pv d v (h + 2) a x := by
  refine Gv.Spec.of (fun w h0 hw => ?_)
  refine Calls.enter Try.func78 rfl rfl rfl hw ?_
  simp only [argSlots]
  (try dsimp only [List.cons_append, List.nil_append])
  rw [inG] at hG
  obtain ⟨⟨ha, hl, he, hlf, hok, hE, hD, hgi⟩, _, hG'⟩ := hG
  have hG' := hG' (Nat.succ_ne_zero h)
  have hd1 : decide (h + 1 = 0) = false := rfl
  rw [hd1] at he hlf hok hE hD
  have hin := inN_inner (h := h) (x := x) he hgi
  obtain ⟨R0, hR0⟩ : ∃ R, R = inN (h + 2) v a x := ⟨_, rfl⟩
  rw [← hR0] at hin ⊢
  have hNd := view_Node pv d v a false hv (by omega) ha
  obtain ⟨hE0, hKD⟩ := hok
  obtain ⟨N, hN⟩ : ∃ N, N = rdN v.S a false := ⟨_, rfl⟩
  rw [← hN] at hNd he hlf hE hD hin hE0 hKD ih hG'
  have hE0 : N.E = [] := hE0
  have hKD : N.K.length = N.D.length := hKD
  obtain ⟨hch, _, hVok, hV⟩ := hG'
  obtain ⟨q, hq⟩ : ∃ q, q = childN N.K x.key := ⟨_, rfl⟩
  rw [← hq] at hch hVok hV hin ih
  obtain ⟨kd, hkd⟩ : ∃ kd, kd = N.D.getD q 0 := ⟨_, rfl⟩
  rw [← hkd] at hVok hV hin ih
  have hND : (NL N.D)[q]? = some (.int .i64 kd) := by
    rw [nl_get, hkd, List.getD_eq_getElem?_getD, List.getElem?_eq_getElem (show q < N.D.length by omega)]; rfl
  have hgS := giN_S v a
  have hdk : DSK d v.S = DSK d (giN v a).1.S := by rw [hgS]
  have hgv := view_give pv d v a hv
  rw [insertT] at ih
  obtain ⟨V, hVd⟩ : ∃ V, V = inN (h + 1) (giN v a).1 kd x := ⟨_, rfl⟩
  rw [← hVd] at ih hVok hV hin
  (refine Tri.seq (Tri.region ?_); apply Tri.op; rfl)
  (first | (apply o_boxA; (case hx => rfl); (case hn => rfl); intro b7) | (apply o_box1; (case hx => rfl); (case h1 => rfl); (case hn => rfl); intro b7))
  (apply Tri.op; rfl; apply o_assign; rfl; rfl; apply Tri.op; rfl; apply o_assign; rfl; rfl; refine Tri.nil (Tri.thenN (Tri.seq (Tri.region ?_))); apply Tri.op; rfl; apply o_move; rfl; rfl; apply Tri.op; rfl; apply o_move; rfl; rfl; apply Tri.op; rfl; apply o_move; rfl; rfl; apply Tri.op; rfl; apply o_eql; rfl; rfl; rfl; apply Tri.op; rfl)
  ((with_reducible apply Tri.setb 20 (false)); (case h => rfl); (case hi => exact decide_eq_false (by omega)))
  (apply o_callS (hs := hNd); (case hargs => (repeat first | exact evs.nil | (apply evs.cons; case a => rfl))); (case p => (repeat first | with_reducible constructor | constructor)); (case hn => rfl))
  rintro r1 H1 ⟨A, c, B, e, C, f, rfl, rfl⟩
  (try dsimp only [List.cons_append, List.nil_append])
  (apply Tri.op; rfl; apply o_move; rfl; rfl; apply Tri.op; rfl; apply o_extract; rfl; rfl; rfl; apply Tri.op; rfl; apply o_extract; rfl; rfl; rfl; apply Tri.op; rfl)
  (apply o_alloc; (case hn => rfl); intro b10)
  (apply Tri.op; rfl)
  (apply o_storeAll (ys := ndLL N.leaf (.slice A N.E.length c) (.slice B N.K.length e) (.slice C N.D.length f)); (case hx => rfl); (case hy => rfl); (case p => (with_reducible repeat constructor)); (case hl => rfl); (case hc => rfl); (case h1 => exact ndLL_one N.leaf A B C _ c _ e _ f))
  (apply Tri.op; rfl; apply o_assign; rfl; rfl; refine Tri.nil (Tri.thenN (Tri.seq (Tri.seq (Tri.region ?_)))); apply Tri.op; rfl; apply o_move; rfl; rfl; apply Tri.op; rfl; apply o_neq; rfl; rfl; rfl; refine Tri.nil (Tri.thenN ?_))
  ((with_reducible apply Tri.setb 25 (false)); (case h => rfl); (case hi => (rw [he]; rfl)))
  (apply Tri.condF; rfl; rfl; refine Tri.skip (Tri.thenN (Tri.seq (Tri.seq (Tri.region ?_)))); apply Tri.op; rfl; apply o_move; rfl; rfl; apply Tri.op; rfl; apply o_move; rfl; rfl; apply Tri.op; rfl)
  (apply o_callS (hs := hgv); (case hargs => (repeat first | exact evs.nil | (apply evs.cons; case a => rfl))); (case p => (repeat first | with_reducible constructor | constructor)); (case hn => rfl))
  rintro r2 H2 ⟨rfl, rfl⟩
  (try dsimp only [List.cons_append, List.nil_append])
  (apply Tri.op; rfl; apply o_assign; rfl; rfl; refine Tri.nil (Tri.thenN (Tri.seq (Tri.region ?_))); apply Tri.op; rfl; apply o_move; rfl; rfl; apply Tri.op; rfl; apply o_neq; rfl; rfl; rfl; refine Tri.nil (Tri.thenN ?_))
  ((with_reducible apply Tri.setb 31 (false)); (case h => rfl); (case hi => (rw [hgi]; rfl)))
  (apply Tri.condF; rfl; rfl; refine Tri.skip (Tri.thenN (Tri.seq (Tri.seq (Tri.region ?_)))); apply Tri.op; rfl; apply o_move; rfl; rfl; apply Tri.op; rfl; apply o_eql; rfl; rfl; rfl; refine Tri.nil (Tri.thenN ?_))
  ((with_reducible apply Tri.setb 34 (false)); (case h => rfl); (case hi => exact decide_eq_false (by omega)))
  (apply Tri.condF; rfl; rfl; refine Tri.skip (Tri.thenN (Tri.seq (Tri.region ?_))); apply Tri.op; rfl)
  (apply o_loadAll (cs := ndLL N.leaf (.slice A N.E.length c) (.slice B N.K.length e) (.slice C N.D.length f)); (case hx => rfl); (case p => exact (by (with_reducible repeat constructor))); (case hl => rfl); (case hn => rfl))
  (apply Tri.op; rfl; apply o_fieldAddr; rfl; rfl; apply Tri.op; rfl)
  (apply o_loadAgg; (case hx => rfl); (case p => exact (by (with_reducible repeat constructor))); (case hv => exact key_cells x); (case hl => rfl); (case hn => rfl))
  (apply Tri.op; rfl)
  have hcd := tree_child N.leaf (.slice A N.E.length c) (.slice B N.K.length e) (.slice C N.D.length f) N.K x.key (by omega)
  rw [← hq] at hcd
  (apply o_callV (hs := hcd); (case hargs => (repeat first | exact evs.nil | (apply evs.cons; case a => rfl))); (case hpre => exact rdw_own (v := .slice B N.K.length e) (by (with_reducible repeat constructor))); (case hn => rfl))
  have hz1 : ((h + 1 : Nat) : Int) = ((h + 2 : Nat) : Int) - 1 := by omega
  rw [hz1] at ih
  have hql : q < N.D.length := by omega
  have hND' : (NL N.D)[q * 1]? = some (.int .i64 kd) := by rw [Nat.mul_one]; exact hND
  rw [hdk]
  (apply Tri.op; rfl; apply o_assign; rfl; rfl; refine Tri.nil (Tri.thenN (Tri.seq ?_)))
  ((first | with_reducible apply Tri.mix [blk b10 33 (ndLL N.leaf (.slice A N.E.length c) (.slice B N.K.length e) (.slice C N.D.length f)), own 3 1 (.slice C N.D.length f) N.D.length (NL N.D), blk b7 100 (entL x)] | (apply TriR.mix [blk b10 33 (ndLL N.leaf (.slice A N.E.length c) (.slice B N.K.length e) (.slice C N.D.length f)), own 3 1 (.slice C N.D.length f) N.D.length (NL N.D), blk b7 100 (entL x)]; (case hnd => rfl))); (case p => (repeat first | with_reducible constructor | constructor)); (dsimp only [List.length]))
  ((first | (apply TriM.q 0; rfl; rfl) | (apply TriM.qYes 0; rfl; rfl; rfl; with_reducible rfl)); kernel_rfl; rfl; rfl; (intro F K hK; apply o_move; rfl; rfl; exact hK); (first | (apply TriM.q 1; rfl; rfl) | (apply TriM.qYes 1; rfl; rfl; rfl; with_reducible rfl)); kernel_rfl; rfl; rfl; (intro F K hK; apply o_fieldAddr; rfl; rfl; exact hK); (first | (apply TriM.q 2; rfl; rfl) | (apply TriM.qYes 2; rfl; rfl; rfl; with_reducible rfl)); kernel_rfl; rfl; rfl; (intro F K hK; (try dsimp only [List.cons_append, List.nil_append]); apply o_load; rfl; (with_reducible repeat constructor); rfl; rfl; exact hK); (first | (apply TriM.q 3; rfl; rfl) | (apply TriM.qYes 3; rfl; rfl; rfl; with_reducible rfl)); kernel_rfl; rfl; rfl; (intro F K hK; apply o_move; rfl; rfl; exact hK))
  ((first | (apply TriM.q 4; (case ho => rfl); (case hg => rfl)) | (apply TriM.qYes 4; (case ho => rfl); (case hg => rfl); (case hyl => rfl); (case hb => with_reducible rfl))); (case hB => kernel_rfl); (case hd => rfl); (case hn => rfl); (case h => (intro F K hK; (try dsimp only [List.cons_append, List.nil_append]); (apply o_ixOwn (j := q); (case hx => rfl); (case hy => rfl); (case p => (with_reducible repeat constructor)); (case hj => rfl); (case hlt => exact hql); (case hn => rfl)); exact hK)))
  ((first | (apply TriM.q 5; (case ho => rfl); (case hg => rfl)) | (apply TriM.qYes 5; (case ho => rfl); (case hg => rfl); (case hyl => rfl); (case hb => with_reducible rfl))); (case hB => kernel_rfl); (case hd => rfl); (case hn => rfl); (case h => (intro F K hK; (try dsimp only [List.cons_append, List.nil_append]); (apply o_loadOwn (j := q * 1); (case hx => rfl); (case p => (with_reducible repeat constructor)); (case hv => exact hND'); (case hn => rfl)); exact hK)))
  ((first | (apply TriM.q 6; rfl; rfl) | (apply TriM.qYes 6; rfl; rfl; rfl; with_reducible rfl)); kernel_rfl; rfl; rfl; (intro F K hK; apply o_move; rfl; rfl; exact hK); (first | (apply TriM.q 7; rfl; rfl) | (apply TriM.qYes 7; rfl; rfl; rfl; with_reducible rfl)); kernel_rfl; rfl; rfl; (intro F K hK; apply o_sub64; rfl; rfl; rfl; (omega); exact hK))
  ((first | (apply TriM.q 8; (case ho => rfl); (case hg => rfl)) | (apply TriM.qYes 8; (case ho => rfl); (case hg => rfl); (case hyl => rfl); (case hb => with_reducible rfl))); (case hB => kernel_rfl); (case hd => rfl); (case hn => rfl); (case h => (intro F K hK; (try dsimp only [List.cons_append, List.nil_append]); (apply o_loadAll (cs := entL x); (case hx => rfl); (case p => exact (by (with_reducible repeat constructor))); (case hl => rfl); (case hn => rfl)); exact hK)))
  (apply TriM.a 9; (case ho => rfl); (case hg => rfl); (case hr => kernel_rfl); (try dsimp only [List.cons_append, List.nil_append]))
  (apply o_callS (hs := ih); (case hargs => (repeat first | exact evs.nil | (apply evs.cons; case a => rfl))); (case p => (repeat first | with_reducible constructor | constructor)); (case hn => rfl))
  rintro r3 H3 ⟨AV, cv, VV, rfl, hVl, hVW, rfl⟩
  (try dsimp only [List.cons_append, List.nil_append])
  (apply TriM.back; (case p => (repeat first | with_reducible constructor | constructor)))
  ((first | (apply TriM.q 10; rfl; rfl) | (apply TriM.qYes 10; rfl; rfl; rfl; with_reducible rfl)); kernel_rfl; rfl; rfl; (intro F K hK; apply o_move; rfl; rfl; exact hK); (first | (apply TriM.q 11; rfl; rfl) | (apply TriM.qYes 11; rfl; rfl; rfl; with_reducible rfl)); kernel_rfl; rfl; rfl; (intro F K hK; apply o_extract; rfl; rfl; rfl; exact hK); (first | (apply TriM.q 12; rfl; rfl) | (apply TriM.qYes 12; rfl; rfl; rfl; with_reducible rfl)); kernel_rfl; rfl; rfl; (intro F K hK; apply o_extract; rfl; rfl; rfl; exact hK); (first | (apply TriM.q 13; rfl; rfl) | (apply TriM.qYes 13; rfl; rfl; rfl; with_reducible rfl)); kernel_rfl; rfl; rfl; (intro F K hK; apply o_assign; rfl; rfl; exact hK); (first | (apply TriM.q 14; rfl; rfl) | (apply TriM.qYes 14; rfl; rfl; rfl; with_reducible rfl)); kernel_rfl; rfl; rfl; (intro F K hK; apply o_assign; rfl; rfl; exact hK))
  (apply TriM.nil; (case hr => kernel_rfl); (try dsimp only [List.cons_append, List.nil_append]))
  (refine Tri.thenN (Tri.seq (Tri.seq (Tri.region ?_))); apply Tri.op; rfl; apply o_move; rfl; rfl; apply Tri.op; rfl; apply o_neq; rfl; rfl; rfl; refine Tri.nil (Tri.thenN ?_))
  by_cases hz : V.2.2 = 0
  · rw [if_pos hz] at hin
    obtain ⟨hV1, hV2, hV3, hV4⟩ := hV hz
    have hrp := view_replaced pv d V.1 (decide (h + 1 = 1)) A c B e C f ⟨N.E, N.K, N.D⟩ q 1 AV cv VV V.2.1 hVok hV3 hV2 hVl hVW hV4 ⟨hE0, hKD⟩ hD hql hch (by omega) hV1
    rw [← hin] at hrp
    have hc1 : ((1 : Nat) : Int) = 1 := rfl
    rw [hc1] at hrp
    dsimp only at hrp
    ((with_reducible apply Tri.setb 71 (false)); (case h => rfl); (case hi => (rw [hz]; rfl)))
    ((with_reducible apply Tri.eqA (A := blk b10 _ _) (B := blk b10 33 (ndLL false (.slice A N.E.length c) (.slice B N.K.length e) (.slice C N.D.length f)))); (case p => (with_reducible repeat constructor)); (case e => (rw [hlf])))
    (apply Tri.condF; rfl; rfl; refine Tri.skip (Tri.thenN (Tri.seq (Tri.region ?_))); apply Tri.op; rfl; apply o_move; rfl; rfl; apply Tri.op; rfl)
    (apply o_loadAll (cs := ndLL false (.slice A N.E.length c) (.slice B N.K.length e) (.slice C N.D.length f)); (case hx => rfl); (case p => exact (by (with_reducible repeat constructor))); (case hl => rfl); (case hn => rfl))
    (apply Tri.op; rfl; apply o_move; rfl; rfl; apply Tri.op; rfl; apply o_move; rfl; rfl; apply Tri.op; rfl)
    (apply o_callS (hs := hrp); (case hargs => (repeat first | exact evs.nil | (apply evs.cons; case a => rfl))); (case p => (repeat first | with_reducible constructor | constructor)); (case hn => rfl))
    rintro r4 H4 ⟨AZ, cz, VZ, rfl, hZl, hZW, rfl⟩
    (try dsimp only [List.cons_append, List.nil_append])
    (apply Tri.op; rfl; apply o_extract; rfl; rfl; rfl; apply Tri.op; rfl; apply o_extract; rfl; rfl; rfl; apply Tri.op; rfl; apply o_assign; rfl; rfl; apply Tri.op; rfl; apply o_assign; rfl; rfl; refine Tri.nil (Tri.thenN (Tri.ret ?_)))
    (apply Tri.fin; (case hr => rfl); (case h => exact ResL.cons (Res1.tmp rfl) (ResL.cons (Res1.tmp rfl) (ResL.nil))); (apply fin_R (Hn := [blk pv 194 (viewL d R0.1), DSK d R0.1.S, own 33 4 (.slice AZ VZ.length cz) VZ.length (NDL false VZ), manyRd (RDS VZ R0.2.1)])); (case p => exact (by (repeat first | with_reducible constructor | constructor))); exact ⟨AZ, cz, VZ, rfl, hZl, hZW, rfl⟩)
  · rw [if_neg hz] at hin
    ((with_reducible apply Tri.setb 71 (true)); (case h => rfl); (case hi => (rw [decide_eq_true]; omega)))
    (apply Tri.condT; rfl; rfl; refine Tri.seq (Tri.region ?_); apply Tri.op; rfl; apply o_move; rfl; rfl; apply Tri.op; rfl; apply o_assign; rfl; rfl; apply Tri.op; rfl; apply o_assign; rfl; rfl; refine Tri.nil (Tri.thenN (Tri.ret (Tri.thenR ?_))))
    (with_reducible apply Tri.ownNil 33 4)
    apply Tri.noneM
    rw [hin]
    (apply Tri.fin; (case hr => rfl); (case h => exact ResL.cons (Res1.tmp rfl) (ResL.cons (Res1.tmp rfl) (ResL.nil))); (apply fin_R (Hn := [blk pv 194 (viewL d V.1), DSK d V.1.S, own 33 4 (.slice none 0 0) 0 [], manyRd []])); (case p => exact (by (repeat first | with_reducible constructor | constructor))); exact ⟨none, 0, [], rfl, rfl, (fun v hv => by cases hv), rfl⟩)
/-- an entry more, below -/
theorem view_insert (pv d : Nat) (x : ENT) (hx : entR x) : ∀ (h : Nat) (v : VS) (a : Int), v.ok → h ≤ 1000 → inG h v a x → insertT pv d v h a x
  | 0, v, a, _, _, hG => hG.elim
  | 1, v, a, hv, _, hG => insert_leaf pv d v a x hv hx hG
  | h + 2, v, a, hv, hh, hG => insert_step pv d v h a x hv hx (by omega) hG (view_insert pv d x hx (h + 1) _ _ (giN_ok hv a) (by omega) (hG.2.2 (Nat.succ_ne_zero h)).2.1)
end Go.Proofs.Ytckdlfbbkemklaa
end
section
/- tree: meets; a view's Load: the walk. -/
namespace Go.Proofs.Ytckdlfbbkemklaa
open Go Go.RowKit Go.Gv
set_option linter.unusedVariables false
set_option linter.unusedSimpArgs false

set_option maxHeartbeats 4000000 in
theorem tree_meets (a b : ENT) : SpecR Try.prog 76 #[entV a, entV b] (fun _ => True) (fun r H' => r = .bool (meetsE a b) ∧ H' = []) := by
  refine SpecR.of (fun w _ => ?_)
  refine Calls.enter Try.func76 rfl rfl rfl (St.rebase w) ?_
  simp only [argSlots]
  have hm : meetsE a b = (decide (a.key.1 = b.key.1) && (decide (a.key.2 ≤ b.fin) && decide (b.key.2 ≤ a.fin))) := rfl
  (refine Tri.seq (Tri.region ?_); apply Tri.op; rfl)
  (first | (apply o_boxA; (case hx => rfl); (case hn => rfl); intro b2) | (apply o_box1; (case hx => rfl); (case h1 => rfl); (case hn => rfl); intro b2))
  (apply Tri.op; rfl)
  (first | (apply o_boxA; (case hx => rfl); (case hn => rfl); intro b3) | (apply o_box1; (case hx => rfl); (case h1 => rfl); (case hn => rfl); intro b3))
  (apply Tri.op; rfl; apply o_assign; rfl; rfl; refine Tri.nil (Tri.thenN (Tri.seq (Tri.region ?_))); apply Tri.op; rfl; apply o_fieldAddr; rfl; rfl; apply Tri.op; rfl; apply o_fieldAddr; rfl; rfl; apply Tri.op; rfl; apply o_load; rfl; (with_reducible repeat constructor); rfl; rfl; apply Tri.op; rfl; apply o_fieldAddr; rfl; rfl; apply Tri.op; rfl; apply o_fieldAddr; rfl; rfl; apply Tri.op; rfl; apply o_load; rfl; (with_reducible repeat constructor); rfl; rfl; apply Tri.op; rfl; apply o_eql; rfl; rfl; rfl; apply Tri.op; rfl; apply o_move; rfl; rfl)
  by_cases h1 : a.key.1 = b.key.1
  · rw [decide_eq_true h1, Bool.true_and] at hm
    ((with_reducible apply Tri.setb 12 (true)); (case h => rfl); (case hi => exact decide_eq_true h1))
    (apply Tri.opYes; rfl; rfl; rfl; apply o_fieldAddr; rfl; rfl; apply Tri.opYes; rfl; rfl; rfl; apply o_fieldAddr; rfl; rfl; apply Tri.opYes; rfl; rfl; rfl; apply o_load; rfl; (with_reducible repeat constructor); rfl; rfl; apply Tri.opYes; rfl; rfl; rfl; apply o_fieldAddr; rfl; rfl; apply Tri.opYes; rfl; rfl; rfl; apply o_load; rfl; (with_reducible repeat constructor); rfl; rfl; apply Tri.opYes; rfl; rfl; rfl; apply o_leq; rfl; rfl; rfl; apply Tri.op; rfl; apply o_pickT; (iterate 4 rfl); apply Tri.op; rfl; apply o_move; rfl; rfl)
    by_cases h2 : a.key.2 ≤ b.fin
    · rw [decide_eq_true h2, Bool.true_and] at hm
      ((with_reducible apply Tri.setb 20 (true)); (case h => rfl); (case hi => exact decide_eq_true h2))
      (apply Tri.opYes; rfl; rfl; rfl; apply o_fieldAddr; rfl; rfl; apply Tri.opYes; rfl; rfl; rfl; apply o_fieldAddr; rfl; rfl; apply Tri.opYes; rfl; rfl; rfl; apply o_load; rfl; (with_reducible repeat constructor); rfl; rfl; apply Tri.opYes; rfl; rfl; rfl; apply o_fieldAddr; rfl; rfl; apply Tri.opYes; rfl; rfl; rfl; apply o_load; rfl; (with_reducible repeat constructor); rfl; rfl; apply Tri.opYes; rfl; rfl; rfl; apply o_leq; rfl; rfl; rfl; apply Tri.op; rfl; apply o_pickT; (iterate 4 rfl); apply Tri.op; rfl; apply o_assign; rfl; rfl; refine Tri.nil (Tri.thenN (Tri.ret ?_)))
      (apply Tri.fin; (case hr => rfl); (case h => exact ResL.cons (Res1.tmp rfl) (ResL.nil)); (apply fin_R (Hn := [])); (case p => exact (by (repeat first | with_reducible constructor | constructor))); exact ⟨by simp only [tupled]; (rw [hm]), rfl⟩)
    · rw [decide_eq_false h2, Bool.false_and] at hm
      ((with_reducible apply Tri.setb 20 (false)); (case h => rfl); (case hi => exact decide_eq_false h2))
      ((iterate 6 apply Tri.opNo (c := false); (iterate 6 rfl)); apply Tri.op; rfl; apply o_pickF; (iterate 4 rfl); apply Tri.op; rfl; apply o_assign; rfl; rfl; refine Tri.nil (Tri.thenN (Tri.ret ?_)))
      (apply Tri.fin; (case hr => rfl); (case h => exact ResL.cons (Res1.tmp rfl) (ResL.nil)); (apply fin_R (Hn := [])); (case p => exact (by (repeat first | with_reducible constructor | constructor))); exact ⟨by simp only [tupled]; (rw [hm]), rfl⟩)
  · rw [decide_eq_false h1, Bool.false_and] at hm
    ((with_reducible apply Tri.setb 12 (false)); (case h => rfl); (case hi => exact decide_eq_false h1))
    ((iterate 6 apply Tri.opNo (c := false); (iterate 6 rfl)); apply Tri.op; rfl; apply o_pickF; (iterate 4 rfl); apply Tri.op; rfl; apply o_move; rfl; rfl; (iterate 6 apply Tri.opNo (c := false); (iterate 6 rfl)); apply Tri.op; rfl; apply o_pickF; (iterate 4 rfl); apply Tri.op; rfl; apply o_assign; rfl; rfl; refine Tri.nil (Tri.thenN (Tri.ret ?_)))
    (apply Tri.fin; (case hr => rfl); (case h => exact ResL.cons (Res1.tmp rfl) (ResL.nil)); (apply fin_R (Hn := [])); (case p => exact (by (repeat first | with_reducible constructor | constructor))); exact ⟨by simp only [tupled]; (rw [hm]), rfl⟩)
theorem rd_noneT (w : World) : RdW w (.slice none 0 0) 0 [] := ⟨none, 0, rfl, ⟨by simp, by decide⟩, fun j u h => by simp at h⟩
end Go.Proofs.Ytckdlfbbkemklaa
end
section
/- tree: an entry more: the walk. -/
namespace Go.Proofs.Ytckdlfbbkemklaa
open Go Go.RowKit Go.Gv
set_option linter.unusedVariables false
set_option linter.unusedSimpArgs false

theorem keyS_eq (a b : KEY) : (decide (a = b) = true ↔ keyL a = keyL b) := by
  rw [decide_eq_true_iff]
  constructor
  · rintro rfl; rfl
  · intro h
    simp only [keyL, List.cons.injEq, Value.int.injEq, true_and, and_true] at h
    exact Prod.ext h.1 h.2
theorem keyS_alk (a : KEY) : Alk [.int .i64 0, .int .i64 0] (keyL a) := ⟨rfl, rfl, trivial⟩
set_option maxRecDepth 4000 in
set_option maxHeartbeats 16000000 in
theorem view_Insert (pv d : Nat) (v : VS) (a : Int) (h : Nat) (x : ENT) (hv : v.ok) (hG : iG v a h x) :
    Gv.Spec Try.prog 46 #[.pointer (some ⟨pv, 0, none⟩), rootV a (h : Int), entV x] [blk pv 194 (viewL d v), DSK d v.S]
    (fun r H' => r = .tuple #[.agg #[.int .i64 (iN v a h x).2.1.1, .int .i64 ((iN v a h x).2.1.2 : Int)], .int .i64 ((iN v a h x).2.2 : Int)]
      ∧ H' = [blk pv 194 (viewL d (iN v a h x).1), DSK d (iN v a h x).1.S]) := by
  refine Gv.Spec.of (fun w h0 hw => ?_)
  refine Calls.enter Try.func46 rfl rfl rfl hw ?_
  simp only [argSlots]
  (try dsimp only [List.cons_append, List.nil_append])
  obtain ⟨⟨hh, hg, hEl, hWl, hxo, hxR⟩, hG2⟩ := hG
  obtain ⟨R0, hR0⟩ : ∃ R, R = iN v a h x := ⟨_, rfl⟩
  rw [← hR0]
  rw [iN] at hR0
  have hall := tree_All pv d v hv (by omega) h a hh hg (by omega)
  obtain ⟨E, hE⟩ : ∃ E, E = wkE v.S h a := ⟨_, rfl⟩
  rw [← hE] at hR0 hall hEl hG2
  (refine Tri.seq (Tri.region ?_); apply Tri.op; rfl)
  (first | (apply o_boxA; (case hx => rfl); (case hn => rfl); intro b4) | (apply o_box1; (case hx => rfl); (case h1 => rfl); (case hn => rfl); intro b4))
  (apply Tri.op; rfl)
  (first | (apply o_boxA; (case hx => rfl); (case hn => rfl); intro b5) | (apply o_box1; (case hx => rfl); (case h1 => rfl); (case hn => rfl); intro b5))
  (apply Tri.op; rfl)
  (apply o_alloc; (case hn => rfl); intro b6)
  (apply Tri.op; rfl; apply o_assign; rfl; rfl; refine Tri.nil (Tri.thenN (Tri.seq (Tri.seq (Tri.region ?_)))); apply Tri.op; rfl; apply o_move; rfl; rfl; apply Tri.op; rfl)
  (apply o_loadAll (cs := rootL a (h : Int)); (case hx => rfl); (case p => exact (by (with_reducible repeat constructor))); (case hl => rfl); (case hn => rfl))
  (apply Tri.op; rfl)
  (apply o_callV (hs := view_may pv a h hh); (case hargs => (repeat first | exact evs.nil | (apply evs.cons; case a => rfl))); (case hpre => exact fun _ _ => trivial); (case hn => rfl))
  (apply Tri.op; rfl; apply o_assign; rfl; rfl; refine Tri.nil (Tri.thenN (Tri.seq (Tri.region ?_))); apply Tri.op; rfl; apply o_move; rfl; rfl; apply Tri.op; rfl; apply o_neq; rfl; rfl; rfl; refine Tri.nil (Tri.thenN ?_))
  ((with_reducible apply Tri.setb 20 (false)); (case h => rfl); (case hi => rfl))
  (apply Tri.condF; rfl; rfl; refine Tri.skip (Tri.thenN (Tri.seq (Tri.seq (Tri.region ?_)))); apply Tri.op; rfl)
  (apply o_loadAll (cs := entL x); (case hx => rfl); (case p => exact (by (with_reducible repeat constructor))); (case hl => rfl); (case hn => rfl))
  (apply Tri.op; rfl)
  (apply o_litSl (ys := entL x); (case hp => (repeat first | exact pev.nil | (apply pev.cons; case a => rfl))); (case hm => rfl); (case hf => rfl); (case hn => rfl); intro vl)
  (refine Tri.shape (e := 100) (size := 8) (v := vl) (by (with_reducible repeat constructor)) ?_; rintro ⟨Av, cv, rfl⟩)
  (apply Tri.op; rfl)
  (apply o_build (ys := ndLL true (.slice Av 1 cv) (.slice none 0 0) (.slice none 0 0)); (case hp => (repeat first | exact pev.nil | (apply pev.cons; case a => rfl))); (case hf => rfl); (case hn => rfl))
  (apply Tri.op; rfl)
  ((with_reducible apply Tri.eqA (A := own 100 8 (.slice Av 1 cv) _ _) (B := own 100 8 (.slice Av 1 cv) [x].length (EL [x]))); (case p => (with_reducible repeat constructor)); (case e => rfl))
  (apply o_callV (hs := node_Right true (.slice Av 1 cv) (.slice none 0 0) (.slice none 0 0) [x] [] []); (case hargs => (repeat first | exact evs.nil | (apply evs.cons; case a => rfl))); (case hpre => exact fun w' hw' => ⟨rdw_own (v := .slice Av 1 cv) (by (with_reducible repeat constructor)) w' hw', rd_noneT _, rd_noneT _⟩); (case hn => rfl))
  ((with_reducible apply Tri.setb 26 (true)); (case h => rfl); (case hi => exact one_right hxo))
  (apply Tri.op; rfl; apply o_not; rfl; rfl; refine Tri.nil (Tri.thenN ?_))
  ((with_reducible apply Tri.setb 27 (false)); (case h => rfl); (case hi => rfl))
  (apply Tri.condF; rfl; rfl; refine Tri.skip (Tri.thenN (Tri.seq (Tri.region ?_))); apply Tri.op; rfl; apply o_move; rfl; rfl; apply Tri.op; rfl)
  (apply o_loadAll (cs := rootL a (h : Int)); (case hx => rfl); (case p => exact (by (with_reducible repeat constructor))); (case hl => rfl); (case hn => rfl))
  (apply Tri.op; rfl)
  (apply o_callS (hs := hall); (case hargs => (repeat first | exact evs.nil | (apply evs.cons; case a => rfl))); (case p => (repeat first | with_reducible constructor | constructor)); (case hn => rfl))
  rintro r1 H1 ⟨A, c, rfl, rfl⟩
  (try dsimp only [List.cons_append, List.nil_append])
  (apply Tri.op; rfl; apply o_move; rfl; rfl; apply Tri.op; rfl; apply o_extract; rfl; rfl; rfl; apply Tri.op; rfl; apply o_extract; rfl; rfl; rfl; apply Tri.op; rfl; apply o_assign; rfl; rfl; apply Tri.op; rfl; apply o_assign; rfl; rfl; refine Tri.nil (Tri.thenN (Tri.seq (Tri.seq (Tri.region ?_)))); apply Tri.op; rfl; apply o_move; rfl; rfl; apply Tri.op; rfl; apply o_neq; rfl; rfl; rfl; refine Tri.nil (Tri.thenN ?_))
  ((with_reducible apply Tri.setb 36 (false)); (case h => rfl); (case hi => rfl))
  (apply Tri.condF; rfl; rfl; refine Tri.skip (Tri.thenN (Tri.seq (Tri.seq (Tri.region ?_)))); apply Tri.op; rfl; apply o_move; rfl; rfl; apply Tri.op; rfl; apply o_len; rfl; rfl; apply Tri.op; rfl; apply o_move; rfl; rfl; refine Tri.nil (Tri.thenN (Tri.block ?_)))
  have hEl8 : (EL E).length = E.length * 8 := EL_lens E rfl
  have hk0 : (E.take 0).any (fun y => decide (y.key = x.key)) = false := by rw [List.take_zero]; rfl
  have hm0 : (E.take 0).any (fun y => meetsE x y) = false := by rw [List.take_zero]; rfl
  (apply Tri.loop (α := Σ' (i : Nat), i ≤ E.length ∧ (E.take i).any (fun y => decide (y.key = x.key)) = false) (m := fun z => E.length - z.1) (Lx := fun z => [(0, .pointer (some ⟨pv, 0, none⟩)), (4, .pointer (some ⟨b4, 0, none⟩)), (5, .pointer (some ⟨b5, 0, none⟩)), (6, .pointer (some ⟨b6, 0, none⟩)), (9, .slice A E.length c), (39, .slice A E.length c), (40, .int .i64 (E.length : Int)), (41, .int .i64 (z.1 : Int))]) (Hx := fun z => [blk b4 48 (rootL a (h : Int)), blk b5 100 (entL x), blk b6 48 [.int .i64 0, .int .i64 0], blk pv 194 (viewL d v), DSK d v.S, own 100 8 (.slice A E.length c) E.length (EL E), Ex h0]) (x0 := ⟨0, Nat.zero_le _, hk0⟩); (case hL => ((try dsimp only); (repeat (first | exact trivial | refine And.intro (by rfl) ?_)))); (case hH => ((try dsimp only); apply St.all; (repeat first | with_reducible constructor | constructor)))); (rintro ⟨i, hi, hno⟩ mx hmx; (try dsimp only at hmx ⊢))
  (refine Tri.seq (Tri.region ?_); apply Tri.op; rfl; apply o_lss; rfl; rfl; rfl; refine Tri.nil (Tri.thenN (Tri.seq ?_)))
  (apply Tri.condD; (case hc => rfl); (all_goals intro hc))
  · have hil : i < E.length := by omega
    have hil' : i + 1 ≤ E.length := hil
    obtain ⟨y, hy⟩ : ∃ y, y = E.getD i ent0 := ⟨_, rfl⟩
    have hE8 : ((EL E).drop (i * 8)).take 8 = entL y := by rw [hy]; exact EL_eight E i hil
    have hat := any_take (fun y : ENT => decide (y.key = x.key)) E ent0 i hil
    rw [← hy, hno, Bool.false_or] at hat
    (refine Tri.skip (Tri.thenN (Tri.seq (Tri.block (Tri.seq (Tri.region ?_))))); apply Tri.op; rfl)
    (apply o_ixOwn (j := i); (case hx => rfl); (case hy => rfl); (case p => (with_reducible repeat constructor)); (case hj => rfl); (case hlt => exact hil); (case hn => rfl))
    (apply Tri.op; rfl)
    (apply o_loadAggOwn (ys := entL y); (case hx => rfl); (case p => exact (by (with_reducible repeat constructor))); (case hv => exact hE8); (case hl => rfl); (case hn => rfl))
    (apply Tri.op; rfl)
    (apply o_alloc; (case hn => rfl); intro b12)
    (apply Tri.op; rfl)
    (apply o_storeAll (ys := entL y); (case hx => rfl); (case hy => rfl); (case p => (with_reducible repeat constructor)); (case hl => rfl); (case hc => rfl); (case h1 => exact entL_one5 y))
    (refine Tri.nil (Tri.thenN (Tri.seq (Tri.region ?_))); apply Tri.op; rfl; apply o_fieldAddr; rfl; rfl; apply Tri.op; rfl)
    (apply o_loadAgg; (case hx => rfl); (case p => exact (by (with_reducible repeat constructor))); (case hv => exact key_cells y); (case hl => rfl); (case hn => rfl))
    (apply Tri.op; rfl; apply o_fieldAddr; rfl; rfl; apply Tri.op; rfl)
    (apply o_loadAgg; (case hx => rfl); (case p => exact (by (with_reducible repeat constructor))); (case hv => exact key_cells x); (case hl => rfl); (case hn => rfl))
    (apply Tri.op; rfl)
    (apply o_eqlA (r := decide (y.key = x.key)); (case hx => rfl); (case hy => rfl); (case hax => exact keyS_alk y.key); (case hay => exact keyS_alk x.key); (case hr => exact keyS_eq y.key x.key); (case hn => rfl))
    (refine Tri.nil (Tri.thenN ?_))
    by_cases hk : y.key = x.key
    · have hany : E.any (fun y => decide (y.key = x.key)) = true := any_of ent0 hil (by rw [← hy]; exact decide_eq_true hk)
      have hchk : chkE E x = 11 := by rw [chkE, if_pos hany]
      rw [hchk, if_pos (by decide)] at hR0
      ((with_reducible apply Tri.setb 49 (true)); (case h => rfl); (case hi => exact decide_eq_true hk))
      (apply Tri.condT; rfl; rfl; refine Tri.seq (Tri.region ?_); apply Tri.op; rfl; apply o_build0; rfl; apply Tri.op; rfl)
      (apply o_storeAll (ys := [.int .i64 0, .int .i64 0]); (case hx => rfl); (case hy => rfl); (case p => (with_reducible repeat constructor)); (case hl => rfl); (case hc => rfl); (case h1 => exact two_int _ _))
      (apply Tri.op; rfl; apply o_assign; rfl; rfl; refine Tri.nil (Tri.thenN (Tri.ret (Tri.blockR (Tri.thenR (Tri.thenR (Tri.blockR (Tri.thenR ?_))))))))
      rw [hR0]
      (apply Tri.fin; (case hr => rfl); (case h => exact ResL.cons ((Res1.agg rfl (by (with_reducible repeat constructor)) (by rw [List.drop_zero]; exact List.take_of_length_le (Nat.le_of_eq (rfl : [Value.int .i64 0, Value.int .i64 0].length = 2))) (rfl : [Value.int .i64 0, Value.int .i64 0].length = 2))) (ResL.cons (Res1.tmp rfl) (ResL.nil))); (apply fin_R (Hn := [blk pv 194 (viewL d v), DSK d v.S])); (case p => exact (by (repeat first | with_reducible constructor | constructor))); exact ⟨rfl, rfl⟩)
    · have hno' : (E.take (i + 1)).any (fun y => decide (y.key = x.key)) = false := by rw [hat]; exact decide_eq_false hk
      ((with_reducible apply Tri.setb 49 (false)); (case h => rfl); (case hi => exact decide_eq_false hk))
      (apply Tri.condF; rfl; rfl; refine Tri.skip (Tri.blockN (Tri.thenN (Tri.region ?_))); apply Tri.op; rfl; apply o_add64; rfl; rfl; rfl; (omega); apply Tri.op; rfl; apply o_move; rfl; rfl; refine Tri.nil (Tri.thenN ?_))
      ((with_reducible apply Tri.seti 41 (((i + 1 : Nat) : Int))); (case h => rfl); (case hi => omega))
      (apply Tri.again (y := ⟨i + 1, hil', hno'⟩); (case p => ((try dsimp only); (repeat (first | exact Pulls.nil | (apply Pulls.cons; (case a => (first | ((repeat (first | with_reducible exact Gv.Pull.head | with_reducible apply Gv.Pull.tail)); done) | (repeat (first | exact Gv.Pull.head | apply Gv.Pull.tail))))))))); (case hm => ((try dsimp only); omega)); (try dsimp only))
      (repeat (first | exact trivial | refine And.intro (by rfl) ?_))
  · have hil : i = E.length := by omega
    rw [hil, List.take_length] at hno
    ((with_reducible refine Tri.exit (Tri.thenE (Tri.thenE (Tri.blockE (Tri.thenN (Tri.seq (Tri.seq (Tri.region ?_)))))))); apply Tri.op; rfl; apply o_move; rfl; rfl; apply Tri.op; rfl; apply o_len; rfl; rfl; apply Tri.op; rfl; apply o_move; rfl; rfl; refine Tri.nil (Tri.thenN (Tri.block ?_)))
    (apply Tri.loop (α := Σ' (i : Nat), i ≤ E.length ∧ (E.take i).any (fun y => meetsE x y) = false) (m := fun z => E.length - z.1) (Lx := fun z => [(0, .pointer (some ⟨pv, 0, none⟩)), (4, .pointer (some ⟨b4, 0, none⟩)), (5, .pointer (some ⟨b5, 0, none⟩)), (6, .pointer (some ⟨b6, 0, none⟩)), (52, .slice A E.length c), (53, .int .i64 (E.length : Int)), (54, .int .i64 (z.1 : Int))]) (Hx := fun z => [blk b4 48 (rootL a (h : Int)), blk b5 100 (entL x), blk b6 48 [.int .i64 0, .int .i64 0], blk pv 194 (viewL d v), DSK d v.S, own 100 8 (.slice A E.length c) E.length (EL E), Ex h0]) (x0 := ⟨0, Nat.zero_le _, hm0⟩); (case hL => ((try dsimp only); (repeat (first | exact trivial | refine And.intro (by rfl) ?_)))); (case hH => ((try dsimp only); apply St.all; (repeat first | with_reducible constructor | constructor)))); (rintro ⟨k, hk, hmo⟩ mx hmx; (try dsimp only at hmx ⊢))
    (refine Tri.seq (Tri.region ?_); apply Tri.op; rfl; apply o_lss; rfl; rfl; rfl; refine Tri.nil (Tri.thenN (Tri.seq ?_)))
    (apply Tri.condD; (case hc => rfl); (all_goals intro hc2))
    · have hkl : k < E.length := by omega
      have hkl' : k + 1 ≤ E.length := hkl
      obtain ⟨y, hy⟩ : ∃ y, y = E.getD k ent0 := ⟨_, rfl⟩
      have hE8 : ((EL E).drop (k * 8)).take 8 = entL y := by rw [hy]; exact EL_eight E k hkl
      have hat := any_take (fun y : ENT => meetsE x y) E ent0 k hkl
      rw [← hy, hmo, Bool.false_or] at hat
      (refine Tri.skip (Tri.thenN (Tri.seq (Tri.block (Tri.seq (Tri.region ?_))))); apply Tri.op; rfl)
      (apply o_ixOwn (j := k); (case hx => rfl); (case hy => rfl); (case p => (with_reducible repeat constructor)); (case hj => rfl); (case hlt => exact hkl); (case hn => rfl))
      (apply Tri.op; rfl)
      (apply o_loadAggOwn (ys := entL y); (case hx => rfl); (case p => exact (by (with_reducible repeat constructor))); (case hv => exact hE8); (case hl => rfl); (case hn => rfl))
      (apply Tri.op; rfl)
      (apply o_alloc; (case hn => rfl); intro b14)
      (apply Tri.op; rfl)
      (apply o_storeAll (ys := entL y); (case hx => rfl); (case hy => rfl); (case p => (with_reducible repeat constructor)); (case hl => rfl); (case hc => rfl); (case h1 => exact entL_one5 y))
      (refine Tri.nil (Tri.thenN (Tri.seq (Tri.region ?_))); apply Tri.op; rfl)
      (apply o_loadAll (cs := entL x); (case hx => rfl); (case p => exact (by (with_reducible repeat constructor))); (case hl => rfl); (case hn => rfl))
      (apply Tri.op; rfl)
      (apply o_loadAll (cs := entL y); (case hx => rfl); (case p => exact (by (with_reducible repeat constructor))); (case hl => rfl); (case hn => rfl))
      (apply Tri.op; rfl)
      (apply o_callV (hs := tree_meets x y); (case hargs => (repeat first | exact evs.nil | (apply evs.cons; case a => rfl))); (case hpre => exact fun _ _ => trivial); (case hn => rfl))
      (refine Tri.nil (Tri.thenN ?_))
      cases hq : meetsE x y with
      | true =>
        have hany : E.any (fun y => meetsE x y) = true := any_of ent0 hkl (by rw [← hy]; exact hq)
        have hchk : chkE E x = 9 := by rw [chkE, if_neg (by rw [hno]; simp), if_pos hany]
        rw [hchk, if_pos (by decide)] at hR0
        (apply Tri.condT; rfl; rfl; refine Tri.seq (Tri.region ?_); apply Tri.op; rfl; apply o_build0; rfl; apply Tri.op; rfl)
        (apply o_storeAll (ys := [.int .i64 0, .int .i64 0]); (case hx => rfl); (case hy => rfl); (case p => (with_reducible repeat constructor)); (case hl => rfl); (case hc => rfl); (case h1 => exact two_int _ _))
        (apply Tri.op; rfl; apply o_assign; rfl; rfl; refine Tri.nil (Tri.thenN (Tri.ret (Tri.blockR (Tri.thenR (Tri.thenR (Tri.blockR (Tri.thenR ?_))))))))
        rw [hR0]
        (apply Tri.fin; (case hr => rfl); (case h => exact ResL.cons ((Res1.agg rfl (by (with_reducible repeat constructor)) (by rw [List.drop_zero]; exact List.take_of_length_le (Nat.le_of_eq (rfl : [Value.int .i64 0, Value.int .i64 0].length = 2))) (rfl : [Value.int .i64 0, Value.int .i64 0].length = 2))) (ResL.cons (Res1.tmp rfl) (ResL.nil))); (apply fin_R (Hn := [blk pv 194 (viewL d v), DSK d v.S])); (case p => exact (by (repeat first | with_reducible constructor | constructor))); exact ⟨rfl, rfl⟩)
      | false =>
        have hmo' : (E.take (k + 1)).any (fun y => meetsE x y) = false := by rw [hat]; exact hq
        (apply Tri.condF; rfl; rfl; refine Tri.skip (Tri.blockN (Tri.thenN (Tri.region ?_))); apply Tri.op; rfl; apply o_add64; rfl; rfl; rfl; (omega); apply Tri.op; rfl; apply o_move; rfl; rfl; refine Tri.nil (Tri.thenN ?_))
        ((with_reducible apply Tri.seti 54 (((k + 1 : Nat) : Int))); (case h => rfl); (case hi => omega))
        (apply Tri.again (y := ⟨k + 1, hkl', hmo'⟩); (case p => ((try dsimp only); (repeat (first | exact Pulls.nil | (apply Pulls.cons; (case a => (first | ((repeat (first | with_reducible exact Gv.Pull.head | with_reducible apply Gv.Pull.tail)); done) | (repeat (first | exact Gv.Pull.head | apply Gv.Pull.tail))))))))); (case hm => ((try dsimp only); omega)); (try dsimp only))
        (repeat (first | exact trivial | refine And.intro (by rfl) ?_))
    · have hkl : k = E.length := by omega
      rw [hkl, List.take_length] at hmo
      have hchk : chkE E x = 0 := by rw [chkE, if_neg (by rw [hno]; simp), if_neg (by rw [hmo]; simp)]
      rw [hchk, if_neg (by decide)] at hR0
      obtain ⟨hGr, hGi⟩ := hG2 hchk
      ((with_reducible refine Tri.exit (Tri.thenE (Tri.thenE (Tri.blockE (Tri.thenN (Tri.seq (Tri.seq (Tri.region ?_)))))))); apply Tri.op; rfl; apply o_fieldAddr; rfl; rfl; apply Tri.op; rfl; apply o_load; rfl; (with_reducible repeat constructor); rfl; rfl; apply Tri.op; rfl; apply o_eql; rfl; rfl; rfl; refine Tri.nil (Tri.thenN ?_))
      by_cases h00 : h = 0
      · rw [if_pos h00] at hR0
        have hGr := hGr h00
        ((with_reducible apply Tri.setb 65 (true)); (case h => rfl); (case hi => (rw [decide_eq_true]; omega)))
        (apply Tri.condT; rfl; rfl; refine Tri.seq (Tri.region ?_); apply Tri.op; rfl; apply o_move; rfl; rfl; apply Tri.op; rfl)
        (apply o_loadAll (cs := entL x); (case hx => rfl); (case p => exact (by (with_reducible repeat constructor))); (case hl => rfl); (case hn => rfl))
        (apply Tri.op; rfl)
        (apply o_litSl (ys := entL x); (case hp => (repeat first | exact pev.nil | (apply pev.cons; case a => rfl))); (case hm => rfl); (case hf => rfl); (case hn => rfl); intro v68)
        (refine Tri.shape (e := 100) (size := 8) (v := v68) (by (with_reducible repeat constructor)) ?_; rintro ⟨A6, c6, rfl⟩)
        (apply Tri.op; rfl)
        (apply o_build (ys := ndLL true (.slice A6 1 c6) (.slice none 0 0) (.slice none 0 0)); (case hp => (repeat first | exact pev.nil | (apply pev.cons; case a => rfl))); (case hf => rfl); (case hn => rfl))
        (apply Tri.op; rfl)
        (apply o_litSl (ys := ndLL true (.slice A6 1 c6) (.slice none 0 0) (.slice none 0 0)); (case hp => (repeat first | exact pev.nil | (apply pev.cons; case a => rfl))); (case hm => rfl); (case hf => rfl); (case hn => rfl); intro v70)
        (refine Tri.shape (e := 33) (size := 4) (v := v70) (by (with_reducible repeat constructor)) ?_; rintro ⟨A7, c7, rfl⟩)
        apply Tri.noneM
        (with_reducible apply Tri.ownNil 98 2)
        (with_reducible apply Tri.ownNil 3 1)
        refine Tri.joinS (l := []) (e := 100) (size := 8) (v := .slice A6 1 c6) (by (with_reducible repeat constructor)) (by (with_reducible repeat constructor)) ?_
        refine Tri.joinS (l := [] ++ [_]) (e := 98) (size := 2) (v := .slice none 0 0) (by (with_reducible repeat constructor)) (by (with_reducible repeat constructor)) ?_
        refine Tri.joinS (l := [] ++ [_] ++ [_]) (e := 3) (size := 1) (v := .slice none 0 0) (by (with_reducible repeat constructor)) (by (with_reducible repeat constructor)) ?_
        obtain ⟨V4, hV4⟩ : ∃ V4, V4 = [((Value.slice A6 1 c6 : Value), (Value.slice none 0 0 : Value), (Value.slice none 0 0 : Value))] := ⟨_, rfl⟩
        have hl4 : V4.length = 1 := by rw [hV4]; rfl
        have hn4 : ndLL true (.slice A6 1 c6) (.slice none 0 0) (.slice none 0 0) = NDL true V4 := by rw [hV4]; rfl
        have hmr : [] ++ [((.slice A6 1 c6 : Value), 1, entL x)] ++ [((.slice none 0 0 : Value), 0, [])] ++ [((.slice none 0 0 : Value), 0, [])] = RDS V4 [⟨[x], [], []⟩] := by rw [hV4]; rfl
        have hW4 : shp V4 := fun v hv => by
          rw [hV4] at hv
          rw [List.mem_singleton.1 hv]; exact ⟨_, _, _, _, _, _, _, _, _, rfl⟩
        have hR4 : ∀ y ∈ [(⟨[x], [], []⟩ : ND3)], ∀ e ∈ y.E, entR e := fun y hy e he => by
          rw [List.mem_singleton.1 hy] at he
          rw [List.mem_singleton.1 he]; exact hxR
        have hro := view_root pv d 1 v true A7 c7 V4 [⟨[x], [], []⟩] 1 hGr hv (by omega) (by show 1 ≤ 1000; decide) (by decide) hl4 hW4 hR4
        rw [← hR0] at hro
        have hc1 : ((1 : Nat) : Int) = 1 := rfl
        rw [hl4, hc1] at hro
        ((with_reducible apply Tri.eqA (A := manyRd ([] ++ [_] ++ [_] ++ [_])) (B := manyRd (RDS V4 [⟨[x], [], []⟩]))); (case p => (with_reducible repeat constructor)); (case e => (rw [← hmr])))
        ((with_reducible apply Tri.eqA (A := own 33 4 (.slice A7 _ c7) _ _) (B := own 33 4 (.slice A7 1 c7) 1 (NDL true V4))); (case p => (with_reducible repeat constructor)); (case e => (rw [hn4])))
        (apply Tri.op; rfl)
        (apply o_callS (hs := hro); (case hargs => (repeat first | exact evs.nil | (apply evs.cons; case a => rfl))); (case p => (repeat first | with_reducible constructor | constructor)); (case hn => rfl))
        rintro r3 H3 ⟨rfl, rfl⟩
        (try dsimp only [List.cons_append, List.nil_append])
        (apply Tri.op; rfl; apply o_extract; rfl; rfl; rfl; apply Tri.op; rfl; apply o_extract; rfl; rfl; rfl; apply Tri.op; rfl)
        (apply o_storeAll (ys := [.int .i64 R0.2.1.1, .int .i64 (R0.2.1.2 : Int)]); (case hx => rfl); (case hy => rfl); (case p => (with_reducible repeat constructor)); (case hl => rfl); (case hc => rfl); (case h1 => exact two_int _ _))
        (apply Tri.op; rfl; apply o_assign; rfl; rfl; refine Tri.nil (Tri.thenN (Tri.ret (Tri.thenR ?_))))
        (apply Tri.fin; (case hr => rfl); (case h => exact ResL.cons ((Res1.agg rfl (by (with_reducible repeat constructor)) (by rw [List.drop_zero]; exact List.take_of_length_le (Nat.le_of_eq (rfl : [Value.int .i64 R0.2.1.1, Value.int .i64 (R0.2.1.2 : Int)].length = 2))) (rfl : [Value.int .i64 R0.2.1.1, Value.int .i64 (R0.2.1.2 : Int)].length = 2))) (ResL.cons (Res1.tmp rfl) (ResL.nil))); (apply fin_R (Hn := [blk pv 194 (viewL d R0.1), DSK d R0.1.S])); (case p => exact (by (repeat first | with_reducible constructor | constructor))); exact ⟨rfl, rfl⟩)
      · rw [if_neg h00] at hR0
        obtain ⟨hiG, hVok, hV⟩ := hGi h00
        ((with_reducible apply Tri.setb 65 (false)); (case h => rfl); (case hi => exact decide_eq_false (by omega)))
        (apply Tri.condF; rfl; rfl; refine Tri.skip (Tri.thenN (Tri.seq (Tri.region ?_))); apply Tri.op; rfl; apply o_move; rfl; rfl; apply Tri.op; rfl; apply o_fieldAddr; rfl; rfl; apply Tri.op; rfl; apply o_load; rfl; (with_reducible repeat constructor); rfl; rfl; apply Tri.op; rfl; apply o_fieldAddr; rfl; rfl; apply Tri.op; rfl; apply o_load; rfl; (with_reducible repeat constructor); rfl; rfl; apply Tri.op; rfl)
        have hins := view_insert pv d x hxR h v a hv (by omega) hiG
        rw [insertT] at hins
        obtain ⟨V, hVd⟩ : ∃ V, V = inN h v a x := ⟨_, rfl⟩
        rw [← hVd] at hins hVok hV hR0
        (apply o_loadAll (cs := entL x); (case hx => rfl); (case p => exact (by (with_reducible repeat constructor))); (case hl => rfl); (case hn => rfl))
        (apply Tri.op; rfl)
        (apply o_callS (hs := hins); (case hargs => (repeat first | exact evs.nil | (apply evs.cons; case a => rfl))); (case p => (repeat first | with_reducible constructor | constructor)); (case hn => rfl))
        rintro r3 H3 ⟨A7, c7, VV, rfl, hVl, hVW, rfl⟩
        (try dsimp only [List.cons_append, List.nil_append])
        (apply Tri.op; rfl; apply o_move; rfl; rfl; apply Tri.op; rfl; apply o_extract; rfl; rfl; rfl; apply Tri.op; rfl; apply o_extract; rfl; rfl; rfl; apply Tri.op; rfl; apply o_assign; rfl; rfl; apply Tri.op; rfl; apply o_assign; rfl; rfl; refine Tri.nil (Tri.thenN (Tri.seq (Tri.seq (Tri.region ?_)))); apply Tri.op; rfl; apply o_move; rfl; rfl; apply Tri.op; rfl; apply o_neq; rfl; rfl; rfl; refine Tri.nil (Tri.thenN ?_))
        by_cases hz : V.2.2 = 0
        · rw [if_pos hz] at hR0
          obtain ⟨hv1, hv2, hv3, hv4⟩ := hV hz
          have hro := view_root pv d 1 V.1 (decide (h = 1)) A7 c7 VV V.2.1 h hv4 hVok (by omega) hv2 (by omega) hVl hVW hv3
          rw [← hR0] at hro
          ((with_reducible apply Tri.setb 85 (false)); (case h => rfl); (case hi => (rw [hz]; rfl)))
          (apply Tri.condF; rfl; rfl; refine Tri.skip (Tri.thenN (Tri.seq (Tri.region ?_))); apply Tri.op; rfl; apply o_move; rfl; rfl; apply Tri.op; rfl; apply o_move; rfl; rfl; apply Tri.op; rfl; apply o_fieldAddr; rfl; rfl; apply Tri.op; rfl; apply o_load; rfl; (with_reducible repeat constructor); rfl; rfl; apply Tri.op; rfl)
          (apply o_callS (hs := hro); (case hargs => (repeat first | exact evs.nil | (apply evs.cons; case a => rfl))); (case p => (repeat first | with_reducible constructor | constructor)); (case hn => rfl))
          rintro r4 H4 ⟨rfl, rfl⟩
          (try dsimp only [List.cons_append, List.nil_append])
          (apply Tri.op; rfl; apply o_extract; rfl; rfl; rfl; apply Tri.op; rfl; apply o_extract; rfl; rfl; rfl; apply Tri.op; rfl)
          (apply o_storeAll (ys := [.int .i64 R0.2.1.1, .int .i64 (R0.2.1.2 : Int)]); (case hx => rfl); (case hy => rfl); (case p => (with_reducible repeat constructor)); (case hl => rfl); (case hc => rfl); (case h1 => exact two_int _ _))
          (apply Tri.op; rfl; apply o_assign; rfl; rfl; refine Tri.nil (Tri.thenN (Tri.ret ?_)))
          (apply Tri.fin; (case hr => rfl); (case h => exact ResL.cons ((Res1.agg rfl (by (with_reducible repeat constructor)) (by rw [List.drop_zero]; exact List.take_of_length_le (Nat.le_of_eq (rfl : [Value.int .i64 R0.2.1.1, Value.int .i64 (R0.2.1.2 : Int)].length = 2))) (rfl : [Value.int .i64 R0.2.1.1, Value.int .i64 (R0.2.1.2 : Int)].length = 2))) (ResL.cons (Res1.tmp rfl) (ResL.nil))); (apply fin_R (Hn := [blk pv 194 (viewL d R0.1), DSK d R0.1.S])); (case p => exact (by (repeat first | with_reducible constructor | constructor))); exact ⟨rfl, rfl⟩)
        · rw [if_neg hz] at hR0
          ((with_reducible apply Tri.setb 85 (true)); (case h => rfl); (case hi => (rw [decide_eq_true]; omega)))
          (apply Tri.condT; rfl; rfl; refine Tri.seq (Tri.region ?_); apply Tri.op; rfl; apply o_build0; rfl; apply Tri.op; rfl; apply o_move; rfl; rfl; apply Tri.op; rfl)
          (apply o_storeAll (ys := [.int .i64 0, .int .i64 0]); (case hx => rfl); (case hy => rfl); (case p => (with_reducible repeat constructor)); (case hl => rfl); (case hc => rfl); (case h1 => exact two_int _ _))
          (apply Tri.op; rfl; apply o_assign; rfl; rfl; refine Tri.nil (Tri.thenN (Tri.ret (Tri.thenR ?_))))
          rw [hR0]
          (apply Tri.fin; (case hr => rfl); (case h => exact ResL.cons ((Res1.agg rfl (by (with_reducible repeat constructor)) (by rw [List.drop_zero]; exact List.take_of_length_le (Nat.le_of_eq (rfl : [Value.int .i64 0, Value.int .i64 0].length = 2))) (rfl : [Value.int .i64 0, Value.int .i64 0].length = 2))) (ResL.cons (Res1.tmp rfl) (ResL.nil))); (apply fin_R (Hn := [blk pv 194 (viewL d V.1), DSK d V.1.S])); (case p => exact (by (repeat first | with_reducible constructor | constructor))); exact ⟨rfl, rfl⟩)
end Go.Proofs.Ytckdlfbbkemklaa
end
section
/- tree: an entry that is looked for: the walk. -/
namespace Go.Proofs.Ytckdlfbbkemklaa
open Go Go.RowKit Go.Gv
set_option linter.unusedVariables false
set_option linter.unusedSimpArgs false

/-- where an entry is looked for -/
structure FK (S : DS) (k : KEY) (R0 : ENT × Nat) where
  h : Nat
  a : Int
  hR : fdN S h a k = R0
  hG : fdG S h a k
  hh : h ≤ 1000
set_option maxHeartbeats 8000000 in
theorem tree_Find (pv d : Nat) (v : VS) (a : Int) (h : Nat) (kx : KEY) (hv : v.ok) (hl : v.S.W.length ≤ 1000000) (hh : h ≤ 5) (hG : fdG v.S h a kx) :
    Gv.Spec Try.prog 70 #[.pointer (some ⟨pv, 0, none⟩), rootV a (h : Int), .agg (keyL kx).toArray] [blk pv 194 (viewL d v), DSK d v.S]
    (fun r H' => r = .tuple #[entV (fdN v.S h a kx).1, .int .i64 ((fdN v.S h a kx).2 : Int)] ∧ H' = [blk pv 194 (viewL d v), DSK d v.S]) := by
  refine Gv.Spec.of (fun w h0 hw => ?_)
  refine Calls.enter Try.func70 rfl rfl rfl hw ?_
  simp only [argSlots]
  (try dsimp only [List.cons_append, List.nil_append])
  obtain ⟨R0, hR0⟩ : ∃ R, R = fdN v.S h a kx := ⟨_, rfl⟩
  rw [← hR0]
  (refine Tri.seq (Tri.region ?_); apply Tri.op; rfl)
  (first | (apply o_boxA; (case hx => rfl); (case hn => rfl); intro b4) | (apply o_box1; (case hx => rfl); (case h1 => rfl); (case hn => rfl); intro b4))
  (apply Tri.op; rfl)
  (first | (apply o_boxA; (case hx => rfl); (case hn => rfl); intro b5) | (apply o_box1; (case hx => rfl); (case h1 => rfl); (case hn => rfl); intro b5))
  (apply Tri.op; rfl)
  (apply o_alloc; (case hn => rfl); intro b6)
  (apply Tri.op; rfl; apply o_assign; rfl; rfl; refine Tri.nil (Tri.thenN (Tri.seq (Tri.seq (Tri.region ?_)))); apply Tri.op; rfl; apply o_move; rfl; rfl; apply Tri.op; rfl)
  (apply o_loadAll (cs := rootL a (h : Int)); (case hx => rfl); (case p => exact (by (with_reducible repeat constructor))); (case hl => rfl); (case hn => rfl))
  (apply Tri.op; rfl)
  (apply o_callV (hs := view_may pv a h hh); (case hargs => (repeat first | exact evs.nil | (apply evs.cons; case a => rfl))); (case hpre => exact fun _ _ => trivial); (case hn => rfl))
  (apply Tri.op; rfl; apply o_assign; rfl; rfl; refine Tri.nil (Tri.thenN (Tri.seq (Tri.region ?_))); apply Tri.op; rfl; apply o_move; rfl; rfl; apply Tri.op; rfl; apply o_neq; rfl; rfl; rfl; refine Tri.nil (Tri.thenN ?_))
  ((with_reducible apply Tri.setb 19 (false)); (case h => rfl); (case hi => rfl))
  (apply Tri.condF; rfl; rfl; refine Tri.skip (Tri.thenN (Tri.seq (Tri.region ?_))); apply Tri.op; rfl; apply o_fieldAddr; rfl; rfl; apply Tri.op; rfl; apply o_load; rfl; (with_reducible repeat constructor); rfl; rfl; apply Tri.op; rfl; apply o_assign; rfl; rfl; refine Tri.nil (Tri.thenN (Tri.seq (Tri.seq (Tri.region ?_)))); apply Tri.op; rfl; apply o_fieldAddr; rfl; rfl; apply Tri.op; rfl; apply o_load; rfl; (with_reducible repeat constructor); rfl; rfl; apply Tri.op; rfl; apply o_assign; rfl; rfl; refine Tri.nil (Tri.thenN (Tri.block ?_)))
  have hz8 : [Value.int .i64 0, .int .i64 0, .int .i64 0, .int .i64 0, .int .i64 0, .int .i64 0, .int .i64 0, .int .u32 0] = entL ent0 := rfl
  rw [hz8]
  (apply Tri.loop (α := FK v.S kx R0) (m := fun z => z.h) (Lx := fun z => [(0, .pointer (some ⟨pv, 0, none⟩)), (5, .pointer (some ⟨b5, 0, none⟩)), (6, .pointer (some ⟨b6, 0, none⟩)), (9, .int .i64 z.a), (10, .int .i64 (z.h : Int))]) (Hx := fun z => [blk b6 100 (entL ent0), blk b5 98 (keyL kx), blk pv 194 (viewL d v), DSK d v.S, Ex h0]) (x0 := ⟨h, a, hR0.symm, hG, (by omega)⟩); (case hL => ((try dsimp only); (repeat (first | exact trivial | refine And.intro (by rfl) ?_)))); (case hH => ((try dsimp only); apply St.all; (repeat first | with_reducible constructor | constructor)))); (rintro ⟨h, a, hR, hG, hh⟩ mx hmx; (try dsimp only at hmx ⊢))
  (refine Tri.seq (Tri.seq (Tri.region ?_)); apply Tri.op; rfl; apply o_move; rfl; rfl; apply Tri.op; rfl; apply o_gtr; rfl; rfl; rfl; refine Tri.nil (Tri.thenN ?_))
  (apply Tri.condD; (case hc => rfl); (all_goals intro hc))
  · obtain ⟨g, rfl⟩ : ∃ g, h = g + 1 := ⟨h - 1, by omega⟩
    rw [fdG] at hG
    rw [fdN] at hR
    obtain ⟨ha, he, hE, hK, hD⟩ := hG
    have hNd := view_Node pv d v a (decide (g = 0)) hv hl ha
    obtain ⟨N, hN⟩ : ∃ N, N = rdN v.S a (decide (g = 0)) := ⟨_, rfl⟩
    rw [← hN] at hNd he hE hK
    have hg1 : g ≤ 1000 := by omega
    (refine Tri.skip (Tri.thenN (Tri.seq (Tri.block (Tri.seq (Tri.region ?_))))); apply Tri.op; rfl; apply o_move; rfl; rfl; apply Tri.op; rfl; apply o_move; rfl; rfl; apply Tri.op; rfl; apply o_move; rfl; rfl; apply Tri.op; rfl; apply o_eql; rfl; rfl; rfl; apply Tri.op; rfl)
    ((with_reducible apply Tri.setb 34 ((decide (g = 0)))); (case h => rfl); (case hi => exact decide_eq_decide.2 (by omega)))
    (apply o_callS (hs := hNd); (case hargs => (repeat first | exact evs.nil | (apply evs.cons; case a => rfl))); (case p => (repeat first | with_reducible constructor | constructor)); (case hn => rfl))
    rintro r1 H1 ⟨A, c, B, e, C, f, rfl, rfl⟩
    (try dsimp only [List.cons_append, List.nil_append])
    (apply Tri.op; rfl; apply o_move; rfl; rfl; apply Tri.op; rfl; apply o_extract; rfl; rfl; rfl; apply Tri.op; rfl; apply o_extract; rfl; rfl; rfl; apply Tri.op; rfl)
    (apply o_alloc; (case hn => rfl); intro b11)
    (apply Tri.op; rfl)
    (apply o_storeAll (ys := ndLL N.leaf (.slice A N.E.length c) (.slice B N.K.length e) (.slice C N.D.length f)); (case hx => rfl); (case hy => rfl); (case p => (with_reducible repeat constructor)); (case hl => rfl); (case hc => rfl); (case h1 => exact ndLL_one N.leaf A B C _ c _ e _ f))
    (apply Tri.op; rfl; apply o_assign; rfl; rfl; refine Tri.nil (Tri.thenN (Tri.seq (Tri.seq (Tri.region ?_)))); apply Tri.op; rfl; apply o_move; rfl; rfl; apply Tri.op; rfl; apply o_neq; rfl; rfl; rfl; refine Tri.nil (Tri.thenN ?_))
    ((with_reducible apply Tri.setb 39 (false)); (case h => rfl); (case hi => (rw [he]; rfl)))
    (apply Tri.condF; rfl; rfl; refine Tri.skip (Tri.thenN (Tri.seq (Tri.seq (Tri.region ?_)))); apply Tri.op; rfl; apply o_move; rfl; rfl; apply Tri.op; rfl; apply o_gtr; rfl; rfl; rfl; refine Tri.nil (Tri.thenN ?_))
    by_cases h00 : g = 0
    · subst h00
      have hN1 : rdN v.S a true = N := by rw [hN]; rfl
      rw [if_pos rfl, hN1] at hR
      have hk0 : (N.E.take 0).any (fun y => decide (y.key = kx)) = false := by rw [List.take_zero]; rfl
      have hEl8 : (EL N.E).length = N.E.length * 8 := EL_lens N.E rfl
      ((with_reducible apply Tri.setb 43 (false)); (case h => rfl); (case hi => exact decide_eq_false (by omega)))
      (apply Tri.condF; rfl; rfl; refine Tri.skip (Tri.thenN (Tri.seq (Tri.region ?_))); apply Tri.op; rfl; apply o_fieldAddr; rfl; rfl; apply Tri.op; rfl; apply o_load; rfl; (with_reducible repeat constructor); rfl; rfl; apply Tri.op; rfl; apply o_len; rfl; rfl; apply Tri.op; rfl; apply o_move; rfl; rfl; refine Tri.nil (Tri.thenN (Tri.block ?_)))
      (apply Tri.loop (α := Σ' (i : Nat), i ≤ N.E.length ∧ (N.E.take i).any (fun y => decide (y.key = kx)) = false) (m := fun z => N.E.length - z.1) (Lx := fun z => [(0, .pointer (some ⟨pv, 0, none⟩)), (5, .pointer (some ⟨b5, 0, none⟩)), (6, .pointer (some ⟨b6, 0, none⟩)), (9, .int .i64 a), (10, .int .i64 ((0 + 1 : Nat) : Int)), (52, .slice A N.E.length c), (53, .int .i64 (N.E.length : Int)), (54, .int .i64 (z.1 : Int))]) (Hx := fun z => [blk b6 100 (entL ent0), blk b5 98 (keyL kx), blk pv 194 (viewL d v), DSK d v.S, own 100 8 (.slice A N.E.length c) N.E.length (EL N.E), Ex h0]) (x0 := ⟨0, Nat.zero_le _, hk0⟩); (case hL => ((try dsimp only); (repeat (first | exact trivial | refine And.intro (by rfl) ?_)))); (case hH => ((try dsimp only); apply St.all; (repeat first | with_reducible constructor | constructor)))); (rintro ⟨i, hi, hno⟩ mx hmx; (try dsimp only at hmx ⊢))
      (refine Tri.seq (Tri.region ?_); apply Tri.op; rfl; apply o_lss; rfl; rfl; rfl; refine Tri.nil (Tri.thenN (Tri.seq ?_)))
      (apply Tri.condD; (case hc => rfl); (all_goals intro hc2))
      · have hil : i < N.E.length := by omega
        have hil' : i + 1 ≤ N.E.length := hil
        obtain ⟨y, hy⟩ : ∃ y, y = N.E.getD i ent0 := ⟨_, rfl⟩
        have hE8 : ((EL N.E).drop (i * 8)).take 8 = entL y := by rw [hy]; exact EL_eight N.E i hil
        have hat := any_take (fun y : ENT => decide (y.key = kx)) N.E ent0 i hil
        rw [← hy, hno, Bool.false_or] at hat
        (refine Tri.skip (Tri.thenN (Tri.seq (Tri.block (Tri.seq (Tri.region ?_))))); apply Tri.op; rfl)
        (apply o_ixOwn (j := i); (case hx => rfl); (case hy => rfl); (case p => (with_reducible repeat constructor)); (case hj => rfl); (case hlt => exact hil); (case hn => rfl))
        (apply Tri.op; rfl)
        (apply o_loadAggOwn (ys := entL y); (case hx => rfl); (case p => exact (by (with_reducible repeat constructor))); (case hv => exact hE8); (case hl => rfl); (case hn => rfl))
        (apply Tri.op; rfl)
        (apply o_alloc; (case hn => rfl); intro b14)
        (apply Tri.op; rfl)
        (apply o_storeAll (ys := entL y); (case hx => rfl); (case hy => rfl); (case p => (with_reducible repeat constructor)); (case hl => rfl); (case hc => rfl); (case h1 => exact entL_one5 y))
        (refine Tri.nil (Tri.thenN (Tri.seq (Tri.region ?_))); apply Tri.op; rfl; apply o_fieldAddr; rfl; rfl; apply Tri.op; rfl)
        (apply o_loadAgg; (case hx => rfl); (case p => exact (by (with_reducible repeat constructor))); (case hv => exact key_cells y); (case hl => rfl); (case hn => rfl))
        (apply Tri.op; rfl)
        (apply o_loadAll (cs := keyL kx); (case hx => rfl); (case p => exact (by (with_reducible repeat constructor))); (case hl => rfl); (case hn => rfl))
        (apply Tri.op; rfl)
        (apply o_eqlA (r := decide (y.key = kx)); (case hx => rfl); (case hy => rfl); (case hax => exact keyS_alk y.key); (case hay => exact keyS_alk kx); (case hr => exact keyS_eq y.key kx); (case hn => rfl))
        (refine Tri.nil (Tri.thenN ?_))
        by_cases hk : y.key = kx
        · have hfd := fdE_some hno hil (by rw [← hy]; exact hk)
          rw [← hy, hR] at hfd
          ((with_reducible apply Tri.setb 61 (true)); (case h => rfl); (case hi => exact decide_eq_true hk))
          (apply Tri.condT; rfl; rfl; refine Tri.seq (Tri.region ?_); apply Tri.op; rfl)
          (apply o_loadAll (cs := entL y); (case hx => rfl); (case p => exact (by (with_reducible repeat constructor))); (case hl => rfl); (case hn => rfl))
          (apply Tri.op; rfl)
          (apply o_storeAll (ys := entL y); (case hx => rfl); (case hy => rfl); (case p => (with_reducible repeat constructor)); (case hl => rfl); (case hc => rfl); (case h1 => exact entL_one5 y))
          (apply Tri.op; rfl; apply o_assign; rfl; rfl; refine Tri.nil (Tri.thenN (Tri.ret (Tri.blockR (Tri.thenR (Tri.thenR (Tri.blockR (Tri.blockR (Tri.thenR (Tri.thenR (Tri.blockR (Tri.thenR ?_))))))))))))
          rw [hfd]
          (apply Tri.fin; (case hr => rfl); (case h => exact ResL.cons ((Res1.agg rfl (by (with_reducible repeat constructor)) (by rw [List.drop_zero]; exact List.take_of_length_le (Nat.le_of_eq (rfl : (entL y).length = 8))) (rfl : (entL y).length = 8))) (ResL.cons (Res1.tmp rfl) (ResL.nil))); (apply fin_R (Hn := [blk pv 194 (viewL d v), DSK d v.S])); (case p => exact (by (repeat first | with_reducible constructor | constructor))); exact ⟨rfl, rfl⟩)
        · have hno' : (N.E.take (i + 1)).any (fun y => decide (y.key = kx)) = false := by rw [hat]; exact decide_eq_false hk
          ((with_reducible apply Tri.setb 61 (false)); (case h => rfl); (case hi => exact decide_eq_false hk))
          (apply Tri.condF; rfl; rfl; refine Tri.skip (Tri.blockN (Tri.thenN (Tri.region ?_))); apply Tri.op; rfl; apply o_add64; rfl; rfl; rfl; (omega); apply Tri.op; rfl; apply o_move; rfl; rfl; refine Tri.nil (Tri.thenN ?_))
          ((with_reducible apply Tri.seti 54 (((i + 1 : Nat) : Int))); (case h => rfl); (case hi => omega))
          (apply Tri.again (y := ⟨i + 1, hil', hno'⟩); (case p => ((try dsimp only); (repeat (first | exact Pulls.nil | (apply Pulls.cons; (case a => (first | ((repeat (first | with_reducible exact Gv.Pull.head | with_reducible apply Gv.Pull.tail)); done) | (repeat (first | exact Gv.Pull.head | apply Gv.Pull.tail))))))))); (case hm => ((try dsimp only); omega)); (try dsimp only))
          (repeat (first | exact trivial | refine And.intro (by rfl) ?_))
      · have hil : i = N.E.length := by omega
        rw [hil, List.take_length] at hno
        have hfd := fdE_none hno
        rw [hR] at hfd
        have hR1 : fdN v.S 0 a kx = R0 := by rw [hfd]; rfl
        have hG0 : fdG v.S 0 a kx := True.intro
        ((with_reducible refine Tri.exit (Tri.thenE (Tri.thenE (Tri.blockE (Tri.blockN (Tri.thenN (Tri.region ?_))))))); apply Tri.op; rfl; apply o_move; rfl; rfl; apply Tri.op; rfl; apply o_sub64; rfl; rfl; rfl; (omega); apply Tri.op; rfl; apply o_assign; rfl; rfl; refine Tri.nil (Tri.thenN ?_))
        ((with_reducible apply Tri.seti 10 (((0 : Nat) : Int))); (case h => rfl); (case hi => rfl))
        (apply Tri.again (y := ⟨0, a, hR1, hG0, Nat.zero_le _⟩); (case p => ((try dsimp only); (repeat (first | exact Pulls.nil | (apply Pulls.cons; (case a => (first | ((repeat (first | with_reducible exact Gv.Pull.head | with_reducible apply Gv.Pull.tail)); done) | (repeat (first | exact Gv.Pull.head | apply Gv.Pull.tail))))))))); (case hm => ((try dsimp only); omega)); (try dsimp only))
        (repeat (first | exact trivial | refine And.intro (by rfl) ?_))
    · have hN1 : rdN v.S a false = N := by rw [hN, decide_eq_false h00]
      rw [if_neg h00, hN1] at hR
      obtain ⟨hq1, hq2⟩ := hD h00
      rw [hN1] at hq1 hq2
      obtain ⟨q, hq⟩ : ∃ q, q = childN N.K kx := ⟨_, rfl⟩
      have hcd := tree_child N.leaf (.slice A N.E.length c) (.slice B N.K.length e) (.slice C N.D.length f) N.K kx (by omega)
      rw [← hq] at hq1 hq2 hR hcd
      obtain ⟨kd, hkd⟩ : ∃ kd, kd = N.D.getD q 0 := ⟨_, rfl⟩
      rw [← hkd] at hq2 hR
      have hND : (NL N.D)[q * 1]? = some (.int .i64 kd) := by
        rw [Nat.mul_one, nl_get, hkd, List.getD_eq_getElem?_getD, List.getElem?_eq_getElem hq1]; rfl
      ((with_reducible apply Tri.setb 43 (true)); (case h => rfl); (case hi => exact decide_eq_true (by omega)))
      (apply Tri.condT; rfl; rfl; refine Tri.seq ?_)
      ((first | with_reducible apply Tri.mix [blk b11 33 (ndLL N.leaf (.slice A N.E.length c) (.slice B N.K.length e) (.slice C N.D.length f)), own 3 1 (.slice C N.D.length f) N.D.length (NL N.D), own 98 2 (.slice B N.K.length e) N.K.length (KL N.K), blk b5 98 (keyL kx)] | (apply TriR.mix [blk b11 33 (ndLL N.leaf (.slice A N.E.length c) (.slice B N.K.length e) (.slice C N.D.length f)), own 3 1 (.slice C N.D.length f) N.D.length (NL N.D), own 98 2 (.slice B N.K.length e) N.K.length (KL N.K), blk b5 98 (keyL kx)]; (case hnd => rfl))); (case p => (repeat first | with_reducible constructor | constructor)); (dsimp only [List.length]))
      ((first | (apply TriM.q 0; rfl; rfl) | (apply TriM.qYes 0; rfl; rfl; rfl; with_reducible rfl)); kernel_rfl; rfl; rfl; (intro F K hK; apply o_fieldAddr; rfl; rfl; exact hK); (first | (apply TriM.q 1; rfl; rfl) | (apply TriM.qYes 1; rfl; rfl; rfl; with_reducible rfl)); kernel_rfl; rfl; rfl; (intro F K hK; (try dsimp only [List.cons_append, List.nil_append]); apply o_load; rfl; (with_reducible repeat constructor); rfl; rfl; exact hK))
      ((first | (apply TriM.q 2; (case ho => rfl); (case hg => rfl)) | (apply TriM.qYes 2; (case ho => rfl); (case hg => rfl); (case hyl => rfl); (case hb => with_reducible rfl))); (case hB => kernel_rfl); (case hd => rfl); (case hn => rfl); (case h => (intro F K hK; (try dsimp only [List.cons_append, List.nil_append]); (apply o_loadAll (cs := ndLL N.leaf (.slice A N.E.length c) (.slice B N.K.length e) (.slice C N.D.length f)); (case hx => rfl); (case p => exact (by (with_reducible repeat constructor))); (case hl => rfl); (case hn => rfl)); exact hK)))
      ((first | (apply TriM.q 3; (case ho => rfl); (case hg => rfl)) | (apply TriM.qYes 3; (case ho => rfl); (case hg => rfl); (case hyl => rfl); (case hb => with_reducible rfl))); (case hB => kernel_rfl); (case hd => rfl); (case hn => rfl); (case h => (intro F K hK; (try dsimp only [List.cons_append, List.nil_append]); (apply o_loadAll (cs := keyL kx); (case hx => rfl); (case p => exact (by (with_reducible repeat constructor))); (case hl => rfl); (case hn => rfl)); exact hK)))
      ((first | (apply TriM.q 4; (case ho => rfl); (case hg => rfl)) | (apply TriM.qYes 4; (case ho => rfl); (case hg => rfl); (case hyl => rfl); (case hb => with_reducible rfl))); (case hB => kernel_rfl); (case hd => rfl); (case hn => rfl); (case h => (intro F K hK; (try dsimp only [List.cons_append, List.nil_append]); apply o_callV (hs := hcd); (case hargs => (repeat first | exact evs.nil | (apply evs.cons; case a => rfl))); (case hpre => exact rdw_own (v := .slice B N.K.length e) (by (with_reducible repeat constructor))); (case hn => rfl); exact hK)))
      ((first | (apply TriM.q 5; (case ho => rfl); (case hg => rfl)) | (apply TriM.qYes 5; (case ho => rfl); (case hg => rfl); (case hyl => rfl); (case hb => with_reducible rfl))); (case hB => kernel_rfl); (case hd => rfl); (case hn => rfl); (case h => (intro F K hK; (try dsimp only [List.cons_append, List.nil_append]); (apply o_ixOwn (j := q); (case hx => rfl); (case hy => rfl); (case p => (with_reducible repeat constructor)); (case hj => rfl); (case hlt => exact hq1); (case hn => rfl)); exact hK)))
      ((first | (apply TriM.q 6; (case ho => rfl); (case hg => rfl)) | (apply TriM.qYes 6; (case ho => rfl); (case hg => rfl); (case hyl => rfl); (case hb => with_reducible rfl))); (case hB => kernel_rfl); (case hd => rfl); (case hn => rfl); (case h => (intro F K hK; (try dsimp only [List.cons_append, List.nil_append]); (apply o_loadOwn (j := q * 1); (case hx => rfl); (case p => (with_reducible repeat constructor)); (case hv => exact hND); (case hn => rfl)); exact hK)))
      ((first | (apply TriM.q 7; rfl; rfl) | (apply TriM.qYes 7; rfl; rfl; rfl; with_reducible rfl)); kernel_rfl; rfl; rfl; (intro F K hK; apply o_assign; rfl; rfl; exact hK))
      (apply TriM.nil; (case hr => kernel_rfl); (try dsimp only [List.cons_append, List.nil_append]))
      (refine Tri.thenN (Tri.exit (Tri.thenE (Tri.blockE (Tri.thenN (Tri.region ?_))))); apply Tri.op; rfl; apply o_move; rfl; rfl; apply Tri.op; rfl; apply o_sub64; rfl; rfl; rfl; (omega); apply Tri.op; rfl; apply o_assign; rfl; rfl; refine Tri.nil (Tri.thenN ?_))
      ((with_reducible apply Tri.seti 10 ((g : Int))); (case h => rfl); (case hi => omega))
      (apply Tri.again (y := ⟨g, kd, hR, hq2, hg1⟩); (case p => ((try dsimp only); (repeat (first | exact Pulls.nil | (apply Pulls.cons; (case a => (first | ((repeat (first | with_reducible exact Gv.Pull.head | with_reducible apply Gv.Pull.tail)); done) | (repeat (first | exact Gv.Pull.head | apply Gv.Pull.tail))))))))); (case hm => ((try dsimp only); omega)); (try dsimp only))
      (repeat (first | exact trivial | refine And.intro (by rfl) ?_))
  · have hh0 : h = 0 := by omega
    subst hh0
    rw [fdN] at hR
    ((with_reducible refine Tri.exit (Tri.thenE (Tri.thenE (Tri.blockE (Tri.thenN (Tri.seq (Tri.region ?_))))))); apply Tri.op; rfl; apply o_build0; rfl; apply Tri.op; rfl)
    (apply o_storeAll (ys := entL ent0); (case hx => rfl); (case hy => rfl); (case p => (with_reducible repeat constructor)); (case hl => rfl); (case hc => rfl); (case h1 => exact entL_one5 _))
    (apply Tri.op; rfl; apply o_assign; rfl; rfl; refine Tri.nil (Tri.thenN (Tri.ret ?_)))
    rw [← hR]
    (apply Tri.fin; (case hr => rfl); (case h => exact ResL.cons ((Res1.agg rfl (by (with_reducible repeat constructor)) (by rw [List.drop_zero]; exact List.take_of_length_le (Nat.le_of_eq (rfl : (entL ent0).length = 8))) (rfl : (entL ent0).length = 8))) (ResL.cons (Res1.tmp rfl) (ResL.nil))); (apply fin_R (Hn := [blk pv 194 (viewL d v), DSK d v.S])); (case p => exact (by (repeat first | with_reducible constructor | constructor))); exact ⟨rfl, rfl⟩)
end Go.Proofs.Ytckdlfbbkemklaa
end
section
/- tree: a view's map: the walk. -/
namespace Go.Proofs.Ytckdlfbbkemklaa
open Go Go.RowKit Go.Gv
set_option linter.unusedVariables false
set_option linter.unusedSimpArgs false

set_option maxHeartbeats 4000000 in
theorem view_Map (pv d : Nat) (v : VS) (hv : v.ok) :
    Gv.Spec Try.prog 72 #[.pointer (some ⟨pv, 0, none⟩)] [blk pv 194 (viewL d v)] (fun r H' => r = bmV v.m ∧ H' = [blk pv 194 (viewL d v)]) := by
  refine Gv.Spec.of (fun w h0 hw => ?_)
  refine Calls.enter Try.func72 rfl rfl rfl hw ?_
  simp only [argSlots]
  (try dsimp only [List.cons_append, List.nil_append])
  ((with_reducible refine Tri.seq (Tri.region ?_)); (with_reducible apply Tri.op); rfl)
  ((with_reducible apply o_alloc); (case hn => rfl); intro b2)
  ((with_reducible refine Tri.nil (Tri.thenN (Tri.seq (Tri.seq (Tri.region ?_))))); (with_reducible apply Tri.op); rfl; (with_reducible apply o_move); rfl; rfl; (with_reducible apply Tri.op); rfl; (with_reducible apply o_eqlN); rfl; rfl; rfl; (with_reducible refine Tri.nil (Tri.thenN ?_)))
  ((with_reducible apply Tri.setb 4 (false)); (case h => rfl); (case hi => rfl))
  ((with_reducible apply Tri.condF); rfl; rfl; (with_reducible refine Tri.skip (Tri.thenN (Tri.seq (Tri.region ?_)))); (with_reducible apply Tri.op); rfl; (with_reducible apply o_move); rfl; rfl; (with_reducible apply Tri.op); rfl; (with_reducible apply o_nilCheck); rfl; rfl; (with_reducible apply Tri.op); rfl; (with_reducible apply o_fieldAddr); rfl; rfl; (with_reducible apply Tri.op); rfl)
  ((with_reducible apply o_loadAgg); (case hx => rfl); (case p => exact (by (repeat first | with_reducible exact Pull.head | apply Pull.tail))); (case hv => exact viewL_m hv); (case hl => exact bmL_len hv.m); (case hn => rfl))
  ((with_reducible apply Tri.op); rfl)
  ((with_reducible apply o_storeAll (ys := bmL v.m)); (case hx => rfl); (case hy => rfl); (case p => (repeat first | with_reducible exact Pull.head | apply Pull.tail)); (case hl => exact bmL_len hv.m); (case hc => exact z513g); (case h1 => exact bmL_one _))
  ((with_reducible refine Tri.nil (Tri.thenN (Tri.ret ?_))))
  ((first | with_reducible apply Tri.fin | with_reducible apply Tri.finN); (case hr => rfl); (case h => exact ResL.cons ((Res1.agg rfl (by (repeat first | with_reducible exact Pull.head | apply Pull.tail)) (by rw [List.drop_zero]; exact List.take_of_length_le (Nat.le_of_eq (bmL_len hv.m))) (bmL_len hv.m))) (ResL.nil)); (apply fin_R (Hn := [blk pv 194 (viewL d v)])); (case p => exact (by (repeat first | exact Pulls.nil | (apply Pulls.cons; repeat first | with_reducible exact Pull.head | apply Pull.tail)))); exact ⟨rfl, rfl⟩)
end Go.Proofs.Ytckdlfbbkemklaa
end
section
/- tree: the laws' grows: the walk. -/
namespace Go.Proofs.Ytckdlfbbkemklaa
open Go Go.RowKit Go.Gv
set_option linter.unusedVariables false
set_option linter.unusedSimpArgs false

theorem gX_alk : Alk [.int .i64 0, .int .i64 0, .int .i64 0, .int .i64 0, .int .i64 0, .int .i64 0, .int .i64 0, .int .u32 0] (entL gX) := ⟨rfl, rfl, rfl, rfl, rfl, rfl, rfl, rfl, trivial⟩
set_option maxHeartbeats 8000000 in
theorem law13_grows : SpecR Try.prog 45 #[] (fun _ => True) (fun r H' => r = .bool true ∧ H' = []) := by
  refine SpecR.of (fun w _ => ?_)
  refine Calls.enter Try.func45 rfl rfl rfl (St.rebase w) ?_
  simp only [argSlots]
  obtain ⟨v', t, hG1, hi1, hok, hW, hfg, hfd, hG2, hi2, hfree⟩ := grow_facts
  have hb := law13_begin 20 (by decide)
  have h20 : ((20 : Nat) : Int) = 20 := rfl
  rw [h20] at hb
  (refine Tri.seq (Tri.region ?_); apply Tri.op; rfl; apply o_assign; rfl; rfl; refine Tri.nil (Tri.thenN (Tri.seq (Tri.region ?_))); apply Tri.op; rfl)
  (apply o_callR (hs := hb); (case hargs => (repeat first | exact evs.nil | (apply evs.cons; case a => rfl))); (case hpre => exact fun _ _ => trivial); (case hn => rfl))
  rintro r1 H1 ⟨pv, d, rfl, rfl⟩
  (try dsimp only [List.cons_append, List.nil_append])
  (apply Tri.op; rfl; apply o_move; rfl; rfl; apply Tri.op; rfl; apply o_extract; rfl; rfl; rfl; apply Tri.op; rfl; apply o_extract; rfl; rfl; rfl; apply Tri.op; rfl; apply o_extract; rfl; rfl; rfl; apply Tri.op; rfl; apply o_assign; rfl; rfl; apply Tri.op; rfl; apply o_assign; rfl; rfl; apply Tri.op; rfl; apply o_assign; rfl; rfl; refine Tri.nil (Tri.thenN (Tri.seq (Tri.seq (Tri.region ?_)))); apply Tri.op; rfl; apply o_move; rfl; rfl; apply Tri.op; rfl; apply o_not; rfl; rfl; refine Tri.nil (Tri.thenN ?_))
  ((with_reducible apply Tri.setb 17 (false)); (case h => rfl); (case hi => rfl))
  (apply Tri.condF; rfl; rfl; refine Tri.skip (Tri.thenN (Tri.seq (Tri.region ?_))); apply Tri.op; rfl)
  (apply o_build (ys := [.int .i64 1, .int .i64 5]); (case hp => (repeat first | exact pev.nil | (apply pev.cons; case a => rfl))); (case hf => rfl); (case hn => rfl))
  (apply Tri.op; rfl)
  (apply o_build (ys := entL gX); (case hp => (repeat first | exact pev.nil | (apply pev.cons; case a => rfl))); (case hf => rfl); (case hn => rfl))
  (apply Tri.op; rfl)
  (apply o_alloc; (case hn => rfl); intro b4)
  (apply Tri.op; rfl)
  (apply o_storeAll (ys := entL gX); (case hx => rfl); (case hy => rfl); (case p => (with_reducible repeat constructor)); (case hl => rfl); (case hc => rfl); (case h1 => exact entL_one5 gX))
  have hin1 := view_Insert pv d (v0 20) 0 0 gX (v0_ok (by decide)) hG1
  have hin2 := view_Insert pv d v' (t : Int) 1 gX hok hG2
  have hfi := tree_Find pv d v' (t : Int) 1 gX.key hok (by omega) (by decide) hfg
  have hmp := view_Map pv d v' hok
  rw [hi1] at hin1
  rw [hi2] at hin2
  rw [hfd] at hfi
  dsimp only at hin1 hin2 hfi
  have hz0 : ((0 : Nat) : Int) = 0 := rfl
  have hz1 : ((1 : Nat) : Int) = 1 := rfl
  rw [hz0] at hin1
  (refine Tri.nil (Tri.thenN (Tri.seq (Tri.region ?_))); apply Tri.op; rfl; apply o_move; rfl; rfl; apply Tri.op; rfl; apply o_build0; rfl; apply Tri.op; rfl)
  (apply o_loadAll (cs := entL gX); (case hx => rfl); (case p => exact (by (with_reducible repeat constructor))); (case hl => rfl); (case hn => rfl))
  ((with_reducible apply Tri.setv 22 (rootV 0 0)); (case h => rfl); (case hv => rfl))
  (apply Tri.op; rfl)
  (apply o_callS (hs := hin1); (case hargs => (repeat first | exact evs.nil | (apply evs.cons; case a => rfl))); (case p => (repeat first | with_reducible constructor | constructor)); (case hn => rfl))
  rintro r2 H2 ⟨rfl, rfl⟩
  (try dsimp only [List.cons_append, List.nil_append])
  (apply Tri.op; rfl; apply o_move; rfl; rfl; apply Tri.op; rfl; apply o_extract; rfl; rfl; rfl; apply Tri.op; rfl; apply o_extract; rfl; rfl; rfl; apply Tri.op; rfl)
  (apply o_alloc; (case hn => rfl); intro b5)
  (apply Tri.op; rfl)
  (apply o_storeAll (ys := rootL (t : Int) ((1 : Nat) : Int)); (case hx => rfl); (case hy => rfl); (case p => (with_reducible repeat constructor)); (case hl => rfl); (case hc => rfl); (case h1 => exact two_int _ _))
  (apply Tri.op; rfl; apply o_assign; rfl; rfl; refine Tri.nil (Tri.thenN (Tri.seq (Tri.region ?_))); apply Tri.op; rfl; apply o_move; rfl; rfl; apply Tri.op; rfl)
  (apply o_loadAll (cs := rootL (t : Int) ((1 : Nat) : Int)); (case hx => rfl); (case p => exact (by (with_reducible repeat constructor))); (case hl => rfl); (case hn => rfl))
  (apply Tri.op; rfl; apply o_fieldAddr; rfl; rfl; apply Tri.op; rfl)
  (apply o_loadAgg; (case hx => rfl); (case p => exact (by (with_reducible repeat constructor))); (case hv => exact key_cells gX); (case hl => rfl); (case hn => rfl))
  (apply Tri.op; rfl)
  (apply o_callS (hs := hfi); (case hargs => (repeat first | exact evs.nil | (apply evs.cons; case a => rfl))); (case p => (repeat first | with_reducible constructor | constructor)); (case hn => rfl))
  rintro r3 H3 ⟨rfl, rfl⟩
  (try dsimp only [List.cons_append, List.nil_append])
  (apply Tri.op; rfl; apply o_move; rfl; rfl; apply Tri.op; rfl; apply o_extract; rfl; rfl; rfl; apply Tri.op; rfl; apply o_extract; rfl; rfl; rfl; apply Tri.op; rfl)
  (apply o_alloc; (case hn => rfl); intro b7)
  (apply Tri.op; rfl)
  (apply o_storeAll (ys := entL gX); (case hx => rfl); (case hy => rfl); (case p => (with_reducible repeat constructor)); (case hl => rfl); (case hc => rfl); (case h1 => exact entL_one5 gX))
  (apply Tri.op; rfl; apply o_assign; rfl; rfl; refine Tri.nil (Tri.thenN (Tri.seq (Tri.region ?_))); apply Tri.op; rfl; apply o_move; rfl; rfl; apply Tri.op; rfl)
  (apply o_loadAll (cs := rootL (t : Int) ((1 : Nat) : Int)); (case hx => rfl); (case p => exact (by (with_reducible repeat constructor))); (case hl => rfl); (case hn => rfl))
  (apply Tri.op; rfl)
  (apply o_loadAll (cs := entL gX); (case hx => rfl); (case p => exact (by (with_reducible repeat constructor))); (case hl => rfl); (case hn => rfl))
  (apply Tri.op; rfl)
  (apply o_callS (hs := hin2); (case hargs => (repeat first | exact evs.nil | (apply evs.cons; case a => rfl))); (case p => (repeat first | with_reducible constructor | constructor)); (case hn => rfl))
  rintro r4 H4 ⟨rfl, rfl⟩
  (try dsimp only [List.cons_append, List.nil_append])
  (apply Tri.op; rfl; apply o_move; rfl; rfl; apply Tri.op; rfl; apply o_extract; rfl; rfl; rfl; apply Tri.op; rfl; apply o_extract; rfl; rfl; rfl; apply Tri.op; rfl)
  (apply o_alloc; (case hn => rfl); intro b9)
  (apply Tri.op; rfl)
  (apply o_storeAll (ys := rootL 0 ((0 : Nat) : Int)); (case hx => rfl); (case hy => rfl); (case p => (with_reducible repeat constructor)); (case hl => rfl); (case hc => rfl); (case h1 => exact two_int _ _))
  (apply Tri.op; rfl; apply o_assign; rfl; rfl; refine Tri.nil (Tri.thenN (Tri.seq (Tri.region ?_))); apply Tri.op; rfl; apply o_move; rfl; rfl; apply Tri.op; rfl; apply o_eql; rfl; rfl; rfl; apply Tri.op; rfl; apply o_move; rfl; rfl)
  ((with_reducible apply Tri.setb 44 (true)); (case h => rfl); (case hi => rfl))
  (apply Tri.opYes; rfl; rfl; rfl; apply o_move; rfl; rfl; apply Tri.opYes; rfl; rfl; rfl; apply o_eql; rfl; rfl; rfl; apply Tri.op; rfl; apply o_pickT; (iterate 4 rfl); apply Tri.op; rfl; apply o_move; rfl; rfl)
  ((with_reducible apply Tri.setb 48 (true)); (case h => rfl); (case hi => rfl))
  (apply Tri.opYes; rfl; rfl; rfl; apply o_fieldAddr; rfl; rfl; apply Tri.opYes; rfl; rfl; rfl; apply o_load; rfl; (with_reducible repeat constructor); rfl; rfl; apply Tri.opYes; rfl; rfl; rfl; apply o_eql; rfl; rfl; rfl; apply Tri.op; rfl; apply o_pickT; (iterate 4 rfl); apply Tri.op; rfl; apply o_move; rfl; rfl)
  ((with_reducible apply Tri.setb 53 (true)); (case h => rfl); (case hi => rfl))
  (apply Tri.opYes; rfl; rfl; rfl)
  (apply o_loadAll (cs := entL gX); (case hx => rfl); (case p => exact (by (with_reducible repeat constructor))); (case hl => rfl); (case hn => rfl))
  (apply Tri.opYes; rfl; rfl; rfl)
  (apply o_loadAll (cs := entL gX); (case hx => rfl); (case p => exact (by (with_reducible repeat constructor))); (case hl => rfl); (case hn => rfl))
  (apply Tri.opYes; rfl; rfl; rfl)
  (apply o_eqlA (r := true); (case hx => rfl); (case hy => rfl); (case hax => exact gX_alk); (case hay => exact gX_alk); (case hr => exact ⟨fun _ => rfl, fun _ => rfl⟩); (case hn => rfl))
  (apply Tri.op; rfl; apply o_pickT; (iterate 4 rfl); apply Tri.op; rfl; apply o_move; rfl; rfl; apply Tri.opYes; rfl; rfl; rfl; apply o_move; rfl; rfl; apply Tri.opYes; rfl; rfl; rfl; apply o_eql; rfl; rfl; rfl; apply Tri.op; rfl; apply o_pickT; (iterate 4 rfl); apply Tri.op; rfl; apply o_move; rfl; rfl)
  ((with_reducible apply Tri.setb 58 (true)); (case h => rfl); (case hi => rfl))
  skip
  ((with_reducible apply Tri.setb 62 (true)); (case h => rfl); (case hi => rfl))
  (apply Tri.opYes; rfl; rfl; rfl; apply o_move; rfl; rfl; apply Tri.opYes; rfl; rfl; rfl)
  (apply o_callS (hs := hmp); (case hargs => (repeat first | exact evs.nil | (apply evs.cons; case a => rfl))); (case p => (repeat first | with_reducible constructor | constructor)); (case hn => rfl))
  rintro r5 H5 ⟨rfl, rfl⟩
  (try dsimp only [List.cons_append, List.nil_append])
  (apply Tri.opYes; rfl; rfl; rfl)
  (apply o_callV (hs := bm_Free v'.m hok.m); (case hargs => (repeat first | exact evs.nil | (apply evs.cons; case a => rfl))); (case hpre => exact fun _ _ => trivial); (case hn => rfl))
  rw [hfree]
  (apply Tri.opYes; rfl; rfl; rfl; apply o_eql; rfl; rfl; rfl; apply Tri.op; rfl; apply o_pickT; (iterate 4 rfl); apply Tri.op; rfl; apply o_assign; rfl; rfl; refine Tri.nil (Tri.thenN (Tri.ret ?_)))
  ((with_reducible apply Tri.setb 0 (true)); (case h => rfl); (case hi => rfl))
  (apply Tri.fin; (case hr => rfl); (case h => exact ResL.cons (Res1.tmp rfl) (ResL.nil)); (apply fin_R (Hn := [])); (case p => exact (by (repeat first | with_reducible constructor | constructor))); exact ⟨by simp only [tupled]; skip, rfl⟩)
end Go.Proofs.Ytckdlfbbkemklaa
end
section
/- From a law's walk to its row: what the row's frame asks. -/
namespace Go.Gv
open Go Go.RowKit
set_option linter.unusedVariables false

theorem below_of_st {w w' : World} {H : List Atom} (h : St w w' (H ++ [Ex (hp w)])) : Below w.heap.size w w' :=
  ⟨h.1.os, h.1.tape, h.1.output, h.1.size, (Sat.exhp (av := fun _ => True) h.2).1⟩

/-- what a law's walk shows -/
def LawR (w : World) : Value → World → Prop := fun v w' => ∃ H', (fun v (_ : List Atom) => v = .bool true) v H' ∧ St w w' (H' ++ [Ex (hp w)])

theorem law_calls {P : Program} {f : FuncId} {args : Array Value} {w : World} (h : Calls P f args w (Ret (LawR w))) : Calls P f args w fun e w' => e = .returned (.bool true) ∧ Below w.heap.size w w' :=
  h.mono fun e w' he => by
    cases e with
    | returned v => obtain ⟨H', rfl, hs⟩ := he; exact ⟨rfl, below_of_st hs⟩
    | panicked c => exact he.elim
    | outgrown => exact he.elim

theorem fin_law {H R F : List Atom} (w : World) (p : Pulls H (F ++ [Ex (hp w)]) R) (v : Value) (hv : v = .bool true) : ∀ w', St w w' H → LawR w v w' := fun w' hw => ⟨F, hv, (hw.pulls p).1, Sat.left (hw.pulls p).2⟩

end Go.Gv
end
section
/- tree: TreeFull: the walk. -/
namespace Go.Proofs.Ytckdlfbbkemklaa
open Go Go.RowKit Go.Gv
set_option linter.unusedVariables false
set_option linter.unusedSimpArgs false

/-- a disk that is filled -/
structure FUL (k : Nat) where
  i : Nat
  v : VS
  a : Int
  h : Nat
  ti : TI k mu4 [] [] v a h (eL i)
  hW : v.S.W.length ≤ 60 * i
  hi : i ≤ 200
set_option maxHeartbeats 8000000 in
theorem treeFull_walk (w : World) (pages : Int) : Calls Try.prog 10 #[.int .i64 pages] w (Ret (LawR w)) := by
  refine Calls.enter Try.func10 rfl rfl rfl (St.rebase w) ?_
  simp only [argSlots]
  obtain ⟨k, hk⟩ : ∃ k : Nat, (k : Int) = 8 + pages % 18446744073709551616 % 10 := ⟨(8 + pages % 18446744073709551616 % 10).toNat, by omega⟩
  have hk8 : 8 ≤ k ∧ k ≤ 512 := by omega
  have hk17 : k ≤ 17 := by omega
  (refine Tri.seq (Tri.region ?_); apply Tri.op; rfl; apply o_assign; rfl; rfl; refine Tri.nil (Tri.thenN (Tri.seq (Tri.region ?_))); apply Tri.op; rfl; apply o_move; rfl; rfl; apply Tri.op; rfl; apply o_conv64; rfl; rfl; apply Tri.op; rfl; apply o_rem; rfl; rfl; rfl; (omega); (omega); apply Tri.op; rfl; apply o_convI; rfl; rfl; (first | decide | (exact wrap_i64 (by omega)) | (exact wrap_u8 (by omega)) | (exact wrap_u16 (by omega)) | (exact wrap_u32 (by omega)) | (exact wrap_u64 (by omega))); apply Tri.op; rfl; apply o_add64; rfl; rfl; rfl; (omega); apply Tri.op; rfl; apply o_assign; rfl; rfl; refine Tri.nil (Tri.thenN (Tri.seq (Tri.region ?_))); apply Tri.op; rfl; apply o_move; rfl; rfl; apply Tri.op; rfl)
  ((with_reducible apply Tri.seti 17 ((k : Int))); (case h => rfl); (case hi => omega))
  skip
  (apply o_callR (hs := law13_begin k hk8); (case hargs => (repeat first | exact evs.nil | (apply evs.cons; case a => rfl))); (case hpre => exact fun _ _ => trivial); (case hn => rfl))
  rintro r1 H1 ⟨pv, d, rfl, rfl⟩
  (try dsimp only [List.cons_append, List.nil_append])
  (apply Tri.op; rfl; apply o_move; rfl; rfl; apply Tri.op; rfl; apply o_extract; rfl; rfl; rfl; apply Tri.op; rfl; apply o_extract; rfl; rfl; rfl; apply Tri.op; rfl; apply o_extract; rfl; rfl; rfl; apply Tri.op; rfl; apply o_assign; rfl; rfl; apply Tri.op; rfl; apply o_assign; rfl; rfl; apply Tri.op; rfl; apply o_assign; rfl; rfl; refine Tri.nil (Tri.thenN (Tri.seq (Tri.seq (Tri.region ?_)))); apply Tri.op; rfl)
  (apply o_callV (hs := law13_grows); (case hargs => (repeat first | exact evs.nil | (apply evs.cons; case a => rfl))); (case hpre => exact fun _ _ => trivial); (case hn => rfl))
  (apply Tri.op; rfl; apply o_not; rfl; rfl; apply Tri.op; rfl; apply o_move; rfl; rfl)
  ((with_reducible apply Tri.setb 24 (false)); (case h => rfl); (case hi => rfl))
  (apply Tri.opYes; rfl; rfl; rfl; apply o_move; rfl; rfl; apply Tri.opYes; rfl; rfl; rfl; apply o_not; rfl; rfl; apply Tri.op; rfl; apply o_pickF; (iterate 4 rfl); refine Tri.nil (Tri.thenN ?_))
  ((with_reducible apply Tri.setb 27 (false)); (case h => rfl); (case hi => rfl))
  (apply Tri.condF; rfl; rfl; refine Tri.skip (Tri.thenN (Tri.seq (Tri.region ?_))); apply Tri.op; rfl; apply o_build0; rfl; apply Tri.op; rfl)
  (apply o_alloc; (case hn => rfl); intro b7)
  (apply Tri.op; rfl)
  (apply o_storeAll (ys := rootL 0 ((0 : Nat) : Int)); (case hx => rfl); (case hy => rfl); (case p => (with_reducible repeat constructor)); (case hl => rfl); (case hc => rfl); (case h1 => exact two_int _ _))
  (refine Tri.nil (Tri.thenN (Tri.seq (Tri.seq (Tri.region ?_)))); apply Tri.op; rfl; apply o_assign; rfl; rfl; refine Tri.nil (Tri.thenN (Tri.block ?_)))
  have ht0 : TI k mu4 [] [] (v0 k) 0 0 (eL 0) := ti_new mu4 hk8
  have hW0 : (v0 k).S.W.length ≤ 60 * 0 := Nat.le_refl 0
  (apply Tri.loop (α := FUL k) (m := fun z => 200 - z.i) (Lx := fun z => [(4, .pointer (some ⟨pv, 0, none⟩)), (7, .pointer (some ⟨b7, 0, none⟩)), (8, .int .i64 (z.i : Int))]) (Hx := fun z => [blk b7 48 (rootL z.a (z.h : Int)), blk pv 194 (viewL d z.v), DSK d z.v.S, Ex (hp w)]) (x0 := ⟨0, v0 k, 0, 0, ht0, hW0, Nat.zero_le _⟩); (case hL => ((try dsimp only); (repeat (first | exact trivial | refine And.intro (by rfl) ?_)))); (case hH => ((try dsimp only); apply St.all; (repeat first | with_reducible constructor | constructor)))); (rintro ⟨i, v, a, h, ti, hW, hi⟩ mx hmx; (try dsimp only at hmx ⊢))
  (refine Tri.seq (Tri.seq (Tri.region ?_)); apply Tri.op; rfl; apply o_move; rfl; rfl; apply Tri.op; rfl; apply o_lss; rfl; rfl; rfl; refine Tri.nil (Tri.thenN ?_))
  (apply Tri.condD; (case hc => rfl); (all_goals intro hc))
  · have hi2 : i < 200 := by omega
    have hi3 : i + 1 ≤ 200 := hi2
    obtain ⟨hG, hR⟩ := fill_step ti hi2 hW
    have hins := view_Insert pv d v a h (eF i) ti.vg.ok hG
    obtain ⟨x, hx⟩ : ∃ x : Nat, x = 7 * i / 1000 := ⟨_, rfl⟩
    obtain ⟨y, hy⟩ : ∃ y : Nat, y = 7 * i % 1000 := ⟨_, rfl⟩
    have hent := law13_entry 0 (x : Int) (y : Int) 0 1 (by omega)
    have hEF : entA (x : Int) (y : Int) 0 1 = eF i := by rw [eF, hx, hy]
    rw [hEF] at hent
    obtain ⟨R, hRd⟩ : ∃ R, R = iN v a h (eF i) := ⟨_, rfl⟩
    rw [← hRd] at hins hR
    (refine Tri.skip (Tri.thenN (Tri.seq (Tri.block (Tri.seq ?_)))))
    ((first | with_reducible apply Tri.mix [blk b7 48 (rootL a (h : Int))] | (apply TriR.mix [blk b7 48 (rootL a (h : Int))]; (case hnd => rfl))); (case p => (repeat first | with_reducible constructor | constructor)); (dsimp only [List.length]))
    ((first | (apply TriM.q 1; (case ho => rfl); (case hg => rfl)) | (apply TriM.qYes 1; (case ho => rfl); (case hg => rfl); (case hyl => rfl); (case hb => with_reducible rfl))); (case hB => kernel_rfl); (case hd => rfl); (case hn => rfl); (case h => (intro F K hK; (try dsimp only [List.cons_append, List.nil_append]); (apply o_loadAll (cs := rootL a (h : Int)); (case hx => rfl); (case p => exact (by (with_reducible repeat constructor))); (case hl => rfl); (case hn => rfl)); exact hK)))
    ((first | (apply TriM.q 0; rfl; rfl) | (apply TriM.qYes 0; rfl; rfl; rfl; with_reducible rfl)); kernel_rfl; rfl; rfl; (intro F K hK; apply o_move; rfl; rfl; exact hK); (first | (apply TriM.q 2; rfl; rfl) | (apply TriM.qYes 2; rfl; rfl; rfl; with_reducible rfl)); kernel_rfl; rfl; rfl; (intro F K hK; apply o_move; rfl; rfl; exact hK); (first | (apply TriM.q 3; rfl; rfl) | (apply TriM.qYes 3; rfl; rfl; rfl; with_reducible rfl)); kernel_rfl; rfl; rfl; (intro F K hK; apply o_mul64; rfl; rfl; rfl; (omega); exact hK); (first | (apply TriM.q 4; rfl; rfl) | (apply TriM.qYes 4; rfl; rfl; rfl; with_reducible rfl)); kernel_rfl; rfl; rfl; (intro F K hK; apply o_rem; rfl; rfl; rfl; (omega); (omega); exact hK); (first | (apply TriM.q 5; rfl; rfl) | (apply TriM.qYes 5; rfl; rfl; rfl; with_reducible rfl)); kernel_rfl; rfl; rfl; (intro F K hK; apply o_move; rfl; rfl; exact hK); (first | (apply TriM.q 6; rfl; rfl) | (apply TriM.qYes 6; rfl; rfl; rfl; with_reducible rfl)); kernel_rfl; rfl; rfl; (intro F K hK; apply o_mul64; rfl; rfl; rfl; (omega); exact hK); (first | (apply TriM.q 7; rfl; rfl) | (apply TriM.qYes 7; rfl; rfl; rfl; with_reducible rfl)); kernel_rfl; rfl; rfl; (intro F K hK; apply o_quo; rfl; rfl; rfl; (omega); (omega); exact hK))
    ((with_reducible apply TriM.seti 38 ((y : Int))); (case h => rfl); (case hi => omega))
    ((with_reducible apply TriM.seti 41 ((x : Int))); (case h => rfl); (case hi => omega))
    ((first | (apply TriM.q 8; (case ho => rfl); (case hg => rfl)) | (apply TriM.qYes 8; (case ho => rfl); (case hg => rfl); (case hyl => rfl); (case hb => with_reducible rfl))); (case hB => kernel_rfl); (case hd => rfl); (case hn => rfl); (case h => (intro F K hK; (try dsimp only [List.cons_append, List.nil_append]); (apply o_build (ys := [.int .i64 0, .int .i64 (x : Int), .int .i64 (y : Int), .int .i64 0, .int .i64 1]); (case hp => (repeat first | exact pev.nil | (apply pev.cons; case a => rfl))); (case hf => rfl); (case hn => rfl)); exact hK)))
    ((first | (apply TriM.q 9; (case ho => rfl); (case hg => rfl)) | (apply TriM.qYes 9; (case ho => rfl); (case hg => rfl); (case hyl => rfl); (case hb => with_reducible rfl))); (case hB => kernel_rfl); (case hd => rfl); (case hn => rfl); (case h => (intro F K hK; (try dsimp only [List.cons_append, List.nil_append]); apply o_callV (hs := hent); (case hargs => (repeat first | exact evs.nil | (apply evs.cons; case a => rfl))); (case hpre => exact fun _ _ => trivial); (case hn => rfl); exact hK)))
    ((first | (apply TriM.q 10; (case ho => rfl); (case hg => rfl)) | (apply TriM.qYes 10; (case ho => rfl); (case hg => rfl); (case hyl => rfl); (case hb => with_reducible rfl))); (case hB => kernel_rfl); (case hd => rfl); (case hn => rfl); (case h => (intro F K hK; (try dsimp only [List.cons_append, List.nil_append]); apply o_callV (hs := law12_Entry (eF i)); (case hargs => (repeat first | exact evs.nil | (apply evs.cons; case a => rfl))); (case hpre => exact fun _ _ => trivial); (case hn => rfl); exact hK)))
    (apply TriM.a2 11 15; (case hoi => rfl); (case hoj => rfl); (case hgi => rfl); (case hgj => rfl); (case hr => kernel_rfl); (all_goals (try dsimp only [List.cons_append, List.nil_append])))
    · (apply o_callS (hs := hins); (case hargs => (repeat first | exact evs.nil | (apply evs.cons; case a => rfl))); (case p => (repeat first | with_reducible constructor | constructor)); (case hn => rfl))
      rintro r3 H3 ⟨rfl, rfl⟩
      (try dsimp only [List.cons_append, List.nil_append])
      (apply TriM.back; (case p => (repeat first | with_reducible constructor | constructor)))
      ((first | (apply TriM.q 12; rfl; rfl) | (apply TriM.qYes 12; rfl; rfl; rfl; with_reducible rfl)); kernel_rfl; rfl; rfl; (intro F K hK; apply o_move; rfl; rfl; exact hK); (first | (apply TriM.q 13; rfl; rfl) | (apply TriM.qYes 13; rfl; rfl; rfl; with_reducible rfl)); kernel_rfl; rfl; rfl; (intro F K hK; apply o_extract; rfl; rfl; rfl; exact hK); (first | (apply TriM.q 14; rfl; rfl) | (apply TriM.qYes 14; rfl; rfl; rfl; with_reducible rfl)); kernel_rfl; rfl; rfl; (intro F K hK; apply o_extract; rfl; rfl; rfl; exact hK))
      (apply TriM.a 15; (case ho => rfl); (case hg => rfl); (case hr => kernel_rfl); (try dsimp only [List.cons_append, List.nil_append]))
      (apply o_alloc; (case hn => rfl); intro b9)
      (apply TriM.back; (case p => (repeat first | with_reducible constructor | constructor)))
      (apply TriM.a 16; (case ho => rfl); (case hg => rfl); (case hr => kernel_rfl); (try dsimp only [List.cons_append, List.nil_append]))
      (apply o_storeAll (ys := rootL R.2.1.1 (R.2.1.2 : Int)); (case hx => rfl); (case hy => rfl); (case p => (with_reducible repeat constructor)); (case hl => rfl); (case hc => rfl); (case h1 => exact two_int _ _))
      (apply TriM.back; (case p => (repeat first | with_reducible constructor | constructor)))
      ((first | (apply TriM.q 17; rfl; rfl) | (apply TriM.qYes 17; rfl; rfl; rfl; with_reducible rfl)); kernel_rfl; rfl; rfl; (intro F K hK; apply o_assign; rfl; rfl; exact hK))
      (apply TriM.nil; (case hr => kernel_rfl); (try dsimp only [List.cons_append, List.nil_append]))
      (refine Tri.thenN (Tri.seq (Tri.seq (Tri.region ?_))); apply Tri.op; rfl; apply o_move; rfl; rfl; apply Tri.op; rfl; apply o_eql; rfl; rfl; rfl; refine Tri.nil (Tri.thenN ?_))
      rcases hR with ⟨v', t, H, rfl, ti', hW'⟩ | ⟨e5, h7⟩
      · dsimp only
        ((with_reducible apply Tri.setb 49 (false)); (case h => rfl); (case hi => rfl))
        (apply Tri.condF; rfl; rfl; refine Tri.skip (Tri.thenN (Tri.seq (Tri.seq (Tri.region ?_)))); apply Tri.op; rfl; apply o_move; rfl; rfl; apply Tri.op; rfl; apply o_neq; rfl; rfl; rfl; refine Tri.nil (Tri.thenN ?_))
        ((with_reducible apply Tri.setb 53 (false)); (case h => rfl); (case hi => rfl))
        (apply Tri.condF; rfl; rfl; refine Tri.skip (Tri.thenN (Tri.region ?_)); apply Tri.op; rfl)
        (apply o_loadAll (cs := rootL (t : Int) (H : Int)); (case hx => rfl); (case p => exact (by (with_reducible repeat constructor))); (case hl => rfl); (case hn => rfl))
        (apply Tri.op; rfl)
        (apply o_storeAll (ys := rootL (t : Int) (H : Int)); (case hx => rfl); (case hy => rfl); (case p => (with_reducible repeat constructor)); (case hl => rfl); (case hc => rfl); (case h1 => exact two_int _ _))
        (refine Tri.nil (Tri.blockN (Tri.thenN (Tri.region ?_))); apply Tri.op; rfl; apply o_move; rfl; rfl; apply Tri.op; rfl; apply o_add64; rfl; rfl; rfl; (omega); apply Tri.op; rfl; apply o_assign; rfl; rfl; refine Tri.nil (Tri.thenN ?_))
        ((with_reducible apply Tri.seti 8 (((i + 1 : Nat) : Int))); (case h => rfl); (case hi => omega))
        (apply Tri.again (y := ⟨i + 1, v', (t : Int), H, ti', hW', hi3⟩); (case p => ((try dsimp only); (repeat (first | exact Pulls.nil | (apply Pulls.cons; (case a => (first | ((repeat (first | with_reducible exact Gv.Pull.head | with_reducible apply Gv.Pull.tail)); done) | (repeat (first | exact Gv.Pull.head | apply Gv.Pull.tail))))))))); (case hm => ((try dsimp only); omega)); (try dsimp only))
        (repeat (first | exact trivial | refine And.intro (by rfl) ?_))
      · ((with_reducible apply Tri.setb 49 (true)); (case h => rfl); (case hi => (rw [e5]; rfl)))
        (apply Tri.condT; rfl; rfl; refine Tri.seq (Tri.region ?_); apply Tri.op; rfl; apply o_move; rfl; rfl; apply Tri.op; rfl; apply o_gtr; rfl; rfl; rfl; apply Tri.op; rfl; apply o_assign; rfl; rfl; refine Tri.nil (Tri.thenN (Tri.ret (Tri.thenR (Tri.blockR (Tri.thenR (Tri.thenR (Tri.blockR (Tri.thenR ?_)))))))))
        ((with_reducible apply Tri.setb 2 (true)); (case h => rfl); (case hi => (rw [decide_eq_true]; omega)))
        apply Tri.fin
        case hr => rfl
        case h => exact ResL.cons (Res1.tmp rfl) ResL.nil
        exact fin_law (F := []) w (by (repeat first | with_reducible constructor | constructor)) _ rfl
    · (apply o_alloc; (case hn => rfl); intro b9)
      (apply TriM.back; (case p => (repeat first | with_reducible constructor | constructor)))
      (apply TriM.a 11; (case ho => rfl); (case hg => rfl); (case hr => kernel_rfl); (try dsimp only [List.cons_append, List.nil_append]))
      (apply o_callS (hs := hins); (case hargs => (repeat first | exact evs.nil | (apply evs.cons; case a => rfl))); (case p => (repeat first | with_reducible constructor | constructor)); (case hn => rfl))
      rintro r3 H3 ⟨rfl, rfl⟩
      (try dsimp only [List.cons_append, List.nil_append])
      (apply TriM.back; (case p => (repeat first | with_reducible constructor | constructor)))
      ((first | (apply TriM.q 12; rfl; rfl) | (apply TriM.qYes 12; rfl; rfl; rfl; with_reducible rfl)); kernel_rfl; rfl; rfl; (intro F K hK; apply o_move; rfl; rfl; exact hK); (first | (apply TriM.q 13; rfl; rfl) | (apply TriM.qYes 13; rfl; rfl; rfl; with_reducible rfl)); kernel_rfl; rfl; rfl; (intro F K hK; apply o_extract; rfl; rfl; rfl; exact hK); (first | (apply TriM.q 14; rfl; rfl) | (apply TriM.qYes 14; rfl; rfl; rfl; with_reducible rfl)); kernel_rfl; rfl; rfl; (intro F K hK; apply o_extract; rfl; rfl; rfl; exact hK))
      (apply TriM.a 16; (case ho => rfl); (case hg => rfl); (case hr => kernel_rfl); (try dsimp only [List.cons_append, List.nil_append]))
      (apply o_storeAll (ys := rootL R.2.1.1 (R.2.1.2 : Int)); (case hx => rfl); (case hy => rfl); (case p => (with_reducible repeat constructor)); (case hl => rfl); (case hc => rfl); (case h1 => exact two_int _ _))
      (apply TriM.back; (case p => (repeat first | with_reducible constructor | constructor)))
      ((first | (apply TriM.q 17; rfl; rfl) | (apply TriM.qYes 17; rfl; rfl; rfl; with_reducible rfl)); kernel_rfl; rfl; rfl; (intro F K hK; apply o_assign; rfl; rfl; exact hK))
      (apply TriM.nil; (case hr => kernel_rfl); (try dsimp only [List.cons_append, List.nil_append]))
      (refine Tri.thenN (Tri.seq (Tri.seq (Tri.region ?_))); apply Tri.op; rfl; apply o_move; rfl; rfl; apply Tri.op; rfl; apply o_eql; rfl; rfl; rfl; refine Tri.nil (Tri.thenN ?_))
      rcases hR with ⟨v', t, H, rfl, ti', hW'⟩ | ⟨e5, h7⟩
      · dsimp only
        ((with_reducible apply Tri.setb 49 (false)); (case h => rfl); (case hi => rfl))
        (apply Tri.condF; rfl; rfl; refine Tri.skip (Tri.thenN (Tri.seq (Tri.seq (Tri.region ?_)))); apply Tri.op; rfl; apply o_move; rfl; rfl; apply Tri.op; rfl; apply o_neq; rfl; rfl; rfl; refine Tri.nil (Tri.thenN ?_))
        ((with_reducible apply Tri.setb 53 (false)); (case h => rfl); (case hi => rfl))
        (apply Tri.condF; rfl; rfl; refine Tri.skip (Tri.thenN (Tri.region ?_)); apply Tri.op; rfl)
        (apply o_loadAll (cs := rootL (t : Int) (H : Int)); (case hx => rfl); (case p => exact (by (with_reducible repeat constructor))); (case hl => rfl); (case hn => rfl))
        (apply Tri.op; rfl)
        (apply o_storeAll (ys := rootL (t : Int) (H : Int)); (case hx => rfl); (case hy => rfl); (case p => (with_reducible repeat constructor)); (case hl => rfl); (case hc => rfl); (case h1 => exact two_int _ _))
        (refine Tri.nil (Tri.blockN (Tri.thenN (Tri.region ?_))); apply Tri.op; rfl; apply o_move; rfl; rfl; apply Tri.op; rfl; apply o_add64; rfl; rfl; rfl; (omega); apply Tri.op; rfl; apply o_assign; rfl; rfl; refine Tri.nil (Tri.thenN ?_))
        ((with_reducible apply Tri.seti 8 (((i + 1 : Nat) : Int))); (case h => rfl); (case hi => omega))
        (apply Tri.again (y := ⟨i + 1, v', (t : Int), H, ti', hW', hi3⟩); (case p => ((try dsimp only); (repeat (first | exact Pulls.nil | (apply Pulls.cons; (case a => (first | ((repeat (first | with_reducible exact Gv.Pull.head | with_reducible apply Gv.Pull.tail)); done) | (repeat (first | exact Gv.Pull.head | apply Gv.Pull.tail))))))))); (case hm => ((try dsimp only); omega)); (try dsimp only))
        (repeat (first | exact trivial | refine And.intro (by rfl) ?_))
      · ((with_reducible apply Tri.setb 49 (true)); (case h => rfl); (case hi => (rw [e5]; rfl)))
        (apply Tri.condT; rfl; rfl; refine Tri.seq (Tri.region ?_); apply Tri.op; rfl; apply o_move; rfl; rfl; apply Tri.op; rfl; apply o_gtr; rfl; rfl; rfl; apply Tri.op; rfl; apply o_assign; rfl; rfl; refine Tri.nil (Tri.thenN (Tri.ret (Tri.thenR (Tri.blockR (Tri.thenR (Tri.thenR (Tri.blockR (Tri.thenR ?_)))))))))
        ((with_reducible apply Tri.setb 2 (true)); (case h => rfl); (case hi => (rw [decide_eq_true]; omega)))
        apply Tri.fin
        case hr => rfl
        case h => exact ResL.cons (Res1.tmp rfl) ResL.nil
        exact fin_law (F := []) w (by (repeat first | with_reducible constructor | constructor)) _ rfl
  · have := fill_end ti hk17
    omega
end Go.Proofs.Ytckdlfbbkemklaa
end
