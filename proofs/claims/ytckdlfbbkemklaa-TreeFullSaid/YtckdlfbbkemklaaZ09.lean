/- Texts of this claim, put together: TvWalk3, TvWalk4, TvWalk11, TvWalk12, SlWalk4, TvWalk13, TvPlain5, TvWalk8, TvWalk9, TvWalk10. -/
import Derived.Test.YtckdlfbbkemklaaZ07
import Derived.Test.YtckdlfbbkemklaaZ08
import Derived.Test.YtckdlfbbkemklaaZ06
section
/- tree: a view's under: the walk. -/
namespace Go.Proofs.Ytckdlfbbkemklaa
open Go Go.RowKit Go.Gv
set_option linter.unusedVariables false
set_option linter.unusedSimpArgs false

theorem one_int (n : Int) : ∀ y ∈ [Value.int .i64 n], y.oneCell' = true := fun y hy => by rw [List.mem_singleton.1 hy]; rfl
set_option maxHeartbeats 16000000 in
theorem view_under (pv d : Nat) (v : VS) (leaf : Bool) (AR : Option Addr) (cr : Nat) (VV : List (Value × Value × Value)) (xs : List ND3) (hv : v.ok) (hxl : VV.length = xs.length) (hn : xs.length ≤ 100000) (hl : v.S.W.length + 4 * xs.length ≤ 800000)
    (hW : ∀ v ∈ VV, ∃ A a B b C c i j k, v = (Value.slice A i a, Value.slice B j b, Value.slice C k c)) (hR : ∀ x ∈ xs, ∀ e ∈ x.E, entR e) :
    Gv.Spec Try.prog 110 #[.pointer (some ⟨pv, 0, none⟩), .slice AR VV.length cr] [blk pv 194 (viewL d v), DSK d v.S, own 33 4 (.slice AR VV.length cr) VV.length (NDL leaf VV), manyRd (RDS VV xs)]
    (fun r H' => ∃ A a B b, r = .tuple #[ndW false (.slice none 0 0) (.slice A (unN leaf v xs).2.1.K.length a) (.slice B (unN leaf v xs).2.1.D.length b), .int .i64 ((unN leaf v xs).2.2 : Int)]
      ∧ H' = [blk pv 194 (viewL d (unN leaf v xs).1), DSK d (unN leaf v xs).1.S, own 33 4 (.slice AR VV.length cr) VV.length (NDL leaf VV), manyRd (RDS VV xs), own 98 2 (.slice A (unN leaf v xs).2.1.K.length a) (unN leaf v xs).2.1.K.length (KL (unN leaf v xs).2.1.K), own 3 1 (.slice B (unN leaf v xs).2.1.D.length b) (unN leaf v xs).2.1.D.length (NL (unN leaf v xs).2.1.D)]) := by
  refine Gv.Spec.of (fun w h0 hw => ?_)
  refine Calls.enter Try.func110 rfl rfl rfl hw ?_
  simp only [argSlots]
  (try dsimp only [List.cons_append, List.nil_append])
  (refine Tri.seq (Tri.region ?_); apply Tri.op; rfl)
  (apply o_alloc; (case hn => rfl); intro b4)
  (apply Tri.op; rfl; apply o_assign; rfl; rfl; refine Tri.nil (Tri.thenN (Tri.seq (Tri.region ?_))); apply Tri.op; rfl)
  (apply o_alloc; (case hn => rfl); intro b6)
  (refine Tri.nil (Tri.thenN (Tri.seq (Tri.seq (Tri.region ?_)))); apply Tri.op; rfl; apply o_move; rfl; rfl; apply Tri.op; rfl; apply o_len; rfl; rfl; apply Tri.op; rfl; apply o_move; rfl; rfl; refine Tri.nil (Tri.thenN (Tri.block ?_)))
  (with_reducible apply Tri.ownNil 98 2)
  (with_reducible apply Tri.ownNil 3 1)
  ((with_reducible apply Tri.eqA (A := own 98 2 (.slice none 0 0) 0 []) (B := own 98 2 (.slice none 0 0) 0 (KL ((xs.take 0).map (least3 leaf))))); (case p => (with_reducible repeat constructor)); (case e => rfl))
  ((with_reducible apply Tri.eqA (A := own 3 1 (.slice none 0 0) 0 []) (B := own 3 1 (.slice none 0 0) 0 (NL (unGo leaf v (xs.take 0)).2.1))); (case p => (with_reducible repeat constructor)); (case e => rfl))
  ((with_reducible apply Tri.eqA (A := blk pv _ _) (B := blk pv 194 (viewL d (unGo leaf v (xs.take 0)).1))); (case p => (with_reducible repeat constructor)); (case e => rfl))
  ((with_reducible apply Tri.eqA (A := DSK d _) (B := DSK d (unGo leaf v (xs.take 0)).1.S)); (case p => (with_reducible repeat constructor)); (case e => rfl))
  ((with_reducible apply Tri.eqA (A := blk b6 _ _) (B := blk b6 33 (ndLL false (.slice none 0 0) (.slice none 0 0) (.slice none 0 0)))); (case p => (with_reducible repeat constructor)); (case e => rfl))
  ((with_reducible apply Tri.eqA (A := blk b4 _ _) (B := blk b4 33 (ndLL false (.slice none 0 0) (.slice none 0 0) (.slice none 0 0)))); (case p => (with_reducible repeat constructor)); (case e => rfl))
  (apply Tri.loop (α := Σ' (i : Nat) (_ : Option Addr) (_ : Nat) (_ : Option Addr) (_ : Nat), i ≤ xs.length ∧ (unGo leaf v (xs.take i)).2.2 = 0) (m := fun x => xs.length - x.1) (Lx := fun x => [(0, .pointer (some ⟨pv, 0, none⟩)), (4, .pointer (some ⟨b4, 0, none⟩)), (6, .pointer (some ⟨b6, 0, none⟩)), (11, .slice AR VV.length cr), (12, .int .i64 (VV.length : Int)), (13, .int .i64 (x.1 : Int))]) (Hx := fun x => [blk b6 33 (ndLL false (.slice none 0 0) (.slice x.2.1 x.1 x.2.2.1) (.slice x.2.2.2.1 x.1 x.2.2.2.2.1)), blk b4 33 (ndLL false (.slice none 0 0) (.slice none 0 0) (.slice none 0 0)), blk pv 194 (viewL d (unGo leaf v (xs.take x.1)).1), DSK d (unGo leaf v (xs.take x.1)).1.S, own 33 4 (.slice AR VV.length cr) VV.length (NDL leaf VV), manyRd (RDS VV xs), own 98 2 (.slice x.2.1 x.1 x.2.2.1) x.1 (KL ((xs.take x.1).map (least3 leaf))), own 3 1 (.slice x.2.2.2.1 x.1 x.2.2.2.2.1) x.1 (NL (unGo leaf v (xs.take x.1)).2.1), Ex h0]) (x0 := ⟨0, none, 0, none, 0, Nat.zero_le _, rfl⟩); (case hL => ((try dsimp only); (repeat (first | exact trivial | refine And.intro (by rfl) ?_)))); (case hH => ((try dsimp only); apply St.all; (repeat first | with_reducible constructor | constructor)))); (rintro ⟨i, A, a, B, b, hi, he⟩ mx hmx; (try dsimp only at hmx ⊢))
  (refine Tri.seq (Tri.region ?_); apply Tri.op; rfl; apply o_lss; rfl; rfl; rfl; refine Tri.nil (Tri.thenN (Tri.seq ?_)))
  (apply Tri.condD; (case hc => rfl); (all_goals intro hc))
  · have hix : i < xs.length := by omega
    have hiv : i < VV.length := by omega
    obtain ⟨y, hy⟩ : ∃ y, xs[i]? = some y := ⟨_, List.getElem?_eq_getElem hix⟩
    obtain ⟨vv, hvv⟩ : ∃ v, VV[i]? = some v := ⟨_, List.getElem?_eq_getElem hiv⟩
    obtain ⟨A1, a1, B1, b1, C1, c1, i1, j1, k1, rfl⟩ := hW vv (List.mem_of_getElem? hvv)
    have hRy := hR y (List.mem_of_getElem? hy)
    have hmem := rds_at VV xs i _ y hvv hy
    have htk : xs.take (i + 1) = xs.take i ++ [y] := by rw [List.take_add_one, hy]; rfl
    have hsn := unGo_snoc leaf (xs.take i) v y he
    rw [← htk] at hsn
    have hok := unGo_ok leaf (xs.take i) hv
    have hok2 := unGo_ok leaf (xs.take (i + 1)) hv
    have hln := unGo_len leaf (xs.take i) v
    have hlt : (xs.take i).length = i := by rw [List.length_take]; omega
    rw [hlt] at hln
    obtain ⟨U, hU⟩ : ∃ U, U = unGo leaf v (xs.take i) := ⟨_, rfl⟩
    rw [← hU] at he hsn hok hln ⊢
    (refine Tri.skip (Tri.thenN (Tri.seq (Tri.block (Tri.seq (Tri.region ?_))))); apply Tri.op; rfl)
    (apply o_ixOwn (j := i); (case hx => rfl); (case hy => rfl); (case p => (with_reducible repeat constructor)); (case hj => rfl); (case hlt => exact hiv); (case hn => rfl))
    (apply Tri.op; rfl)
    (apply o_loadAggOwn; (case hx => rfl); (case p => (with_reducible repeat constructor)); (case hv => exact NDL_at VV i _ hvv); (case hl => rfl); (case hn => rfl))
    (apply Tri.op; rfl)
    (apply o_alloc; (case hn => rfl); intro b8)
    (apply Tri.op; rfl)
    (apply o_storeAll (ys := ndLL leaf (.slice A1 i1 a1) (.slice B1 j1 b1) (.slice C1 k1 c1)); (case hx => rfl); (case hy => rfl); (case p => (with_reducible repeat constructor)); (case hl => rfl); (case hc => rfl); (case h1 => exact ndLL_one leaf A1 B1 C1 i1 a1 j1 b1 k1 c1))
    (refine Tri.nil (Tri.thenN (Tri.seq (Tri.region ?_))); apply Tri.op; rfl; apply o_move; rfl; rfl; apply Tri.op; rfl)
    (apply o_loadAll (cs := ndLL leaf (.slice A1 i1 a1) (.slice B1 j1 b1) (.slice C1 k1 c1)); (case hx => rfl); (case p => exact (by (with_reducible repeat constructor))); (case hl => rfl); (case hn => rfl))
    (apply Tri.op; rfl)
    (apply o_callS (hs := view_write pv d U.1 leaf (.slice A1 i1 a1) (.slice B1 j1 b1) (.slice C1 k1 c1) y (RDS VV xs) hok (by omega) hmem.1 hmem.2.1 hmem.2.2 hRy); (case hargs => (repeat first | exact evs.nil | (apply evs.cons; case a => rfl))); (case p => (repeat first | with_reducible constructor | constructor)); (case hn => rfl))
    rintro r1 H1 ⟨rfl, rfl⟩
    (try dsimp only [List.cons_append, List.nil_append])
    obtain ⟨W, hWd⟩ : ∃ W, W = wrN U.1 leaf y := ⟨_, rfl⟩
    rw [← hWd] at hsn ⊢
    by_cases hz : W.2.2 = 0
    · have he' : (unGo leaf v (xs.take (i + 1))).2.2 = 0 := by rw [hsn.2.1]; exact hz
      have hix' : i + 1 ≤ xs.length := hix
      have hkl : KL ((xs.take i).map (least3 leaf)) ++ keyL (leastN leaf y.E y.K) = KL ((xs.take (i + 1)).map (least3 leaf)) := by
        rw [htk, List.map_append, KL_app]; simp [KL, least3]
      have hnl : NL U.2.1 ++ [.int .i64 W.2.1] = NL (unGo leaf v (xs.take (i + 1))).2.1 := by
        rw [hsn.2.2 hz, NL_app]; rfl
      (apply Tri.op; rfl; apply o_move; rfl; rfl; apply Tri.op; rfl; apply o_extract; rfl; rfl; rfl; apply Tri.op; rfl; apply o_extract; rfl; rfl; rfl; apply Tri.op; rfl; apply o_assign; rfl; rfl; apply Tri.op; rfl; apply o_assign; rfl; rfl; refine Tri.nil (Tri.thenN (Tri.seq (Tri.seq (Tri.region ?_)))); apply Tri.op; rfl; apply o_move; rfl; rfl; apply Tri.op; rfl; apply o_neq; rfl; rfl; rfl; refine Tri.nil (Tri.thenN ?_))
      ((with_reducible apply Tri.setb 24 (false)); (case h => rfl); (case hi => (rw [hz]; rfl)))
      (apply Tri.condF; rfl; rfl; refine Tri.skip (Tri.thenN ?_))
      (apply Tri.mixN 12 [blk b8 33 (ndLL leaf (.slice A1 i1 a1) (.slice B1 j1 b1) (.slice C1 k1 c1)), manyRd (RDS VV xs)] [blk b8 33 (ndLL leaf (.slice A1 i1 a1) (.slice B1 j1 b1) (.slice C1 k1 c1)), manyRd (RDS VV xs), blk b6 33 (ndLL false (.slice none 0 0) (.slice A i a) (.slice B i b))]; (case hp => exact ⟨_, rfl⟩); (case p => (repeat first | with_reducible constructor | constructor)); (dsimp only [List.length]))
      ((apply TriN.q 0; (case ho => rfl); (case hg => rfl); (case hB => kernel_rfl); (case hd => rfl); (case hn => rfl); (case h => (intro F K hK; (try dsimp only [List.cons_append, List.nil_append]); apply o_fieldAddr; rfl; rfl; exact hK))); (apply TriN.q 1; (case ho => rfl); (case hg => rfl); (case hB => kernel_rfl); (case hd => rfl); (case hn => rfl); (case h => (intro F K hK; (try dsimp only [List.cons_append, List.nil_append]); apply o_load; rfl; (with_reducible repeat constructor); rfl; rfl; exact hK))))
      (apply TriN.q 2; (case ho => rfl); (case hg => rfl); (case hB => kernel_rfl); (case hd => rfl); (case hn => rfl); (case h => (intro F K hK; (try dsimp only [List.cons_append, List.nil_append]); (apply o_loadAll (cs := ndLL leaf (.slice A1 i1 a1) (.slice B1 j1 b1) (.slice C1 k1 c1)); (case hx => rfl); (case p => exact (by (with_reducible repeat constructor))); (case hl => rfl); (case hn => rfl)); exact hK)))
      (apply TriN.q 3; (case ho => rfl); (case hg => rfl); (case hB => kernel_rfl); (case hd => rfl); (case hn => rfl); (case h => (intro F K hK; (try dsimp only [List.cons_append, List.nil_append]); apply o_callV (hs := node_Least leaf (.slice A1 i1 a1) (.slice B1 j1 b1) (.slice C1 k1 c1) y.E y.K y.D); (case hargs => (repeat first | exact evs.nil | (apply evs.cons; case a => rfl))); (case hpre => exact fun w' hw' => ⟨rdw_many (by (with_reducible repeat constructor)) hmem.1 w' hw', rdw_many (by (with_reducible repeat constructor)) hmem.2.1 w' hw', rdw_many (by (with_reducible repeat constructor)) hmem.2.2 w' hw'⟩); (case hn => rfl); exact hK)))
      ((apply TriN.q 6; (case ho => rfl); (case hg => rfl); (case hB => kernel_rfl); (case hd => rfl); (case hn => rfl); (case h => (intro F K hK; (try dsimp only [List.cons_append, List.nil_append]); apply o_fieldAddr; rfl; rfl; exact hK))); (apply TriN.q 7; (case ho => rfl); (case hg => rfl); (case hB => kernel_rfl); (case hd => rfl); (case hn => rfl); (case h => (intro F K hK; (try dsimp only [List.cons_append, List.nil_append]); apply o_load; rfl; (with_reducible repeat constructor); rfl; rfl; exact hK))); (apply TriN.q 8; (case ho => rfl); (case hg => rfl); (case hB => kernel_rfl); (case hd => rfl); (case hn => rfl); (case h => (intro F K hK; (try dsimp only [List.cons_append, List.nil_append]); apply o_move; rfl; rfl; exact hK))))
      (apply TriN.a2 4 9; (case hoi => rfl); (case hoj => rfl); (case hgi => rfl); (case hgj => rfl); (case hr => kernel_rfl); (all_goals (try dsimp only [List.cons_append, List.nil_append])))
      · (apply o_litSl (ys := keyL (leastN leaf y.E y.K)); (case hp => (repeat first | exact pev.nil | (apply pev.cons; case a => rfl))); (case hm => rfl); (case hf => rfl); (case hn => rfl); intro v4)
        (apply TriN.back; (case hp => exact ⟨_, rfl⟩); (case p => (repeat first | with_reducible constructor | constructor)))
        (apply TriN.a2 5 9; (case hoi => rfl); (case hoj => rfl); (case hgi => rfl); (case hgj => rfl); (case hr => kernel_rfl); (all_goals (try dsimp only [List.cons_append, List.nil_append])))
        · (apply o_append (m2 := 1) (news := keyL (leastN leaf y.E y.K)); (case hx => rfl); (case hy => rfl); (case p => (with_reducible repeat constructor)); (case hr => exact rdw_own (v := v4) (by (with_reducible repeat constructor))); (case hl => rfl); (case h1 => exact keyL_one _); (case hb => omega); (case hn => rfl))
          intro v5
          (refine Tri.shape (e := 98) (size := 2) (v := v5) (by (with_reducible repeat constructor)) ?_; rintro ⟨A2, a2, rfl⟩)
          (apply TriN.back; (case hp => exact ⟨_, rfl⟩); (case p => (repeat first | with_reducible constructor | constructor)))
          ((apply TriN.p 11; (case ho => rfl); (case hg => rfl); (case hB => kernel_rfl); (case hd => rfl); (case hn => rfl); (case h => (intro F K hK; (try dsimp only [List.cons_append, List.nil_append]); apply o_fieldAddr; rfl; rfl; exact hK))))
          (apply TriN.a 9; (case ho => rfl); (case hg => rfl); (case hr => kernel_rfl); (try dsimp only [List.cons_append, List.nil_append]))
          (apply o_litSl (ys := [.int .i64 W.2.1]); (case hp => (repeat first | exact pev.nil | (apply pev.cons; case a => rfl))); (case hm => rfl); (case hf => rfl); (case hn => rfl); intro v9)
          (apply TriN.back; (case hp => exact ⟨_, rfl⟩); (case p => (repeat first | with_reducible constructor | constructor)))
          (apply TriN.a 10; (case ho => rfl); (case hg => rfl); (case hr => kernel_rfl); (try dsimp only [List.cons_append, List.nil_append]))
          (apply o_append (m2 := 1) (news := [.int .i64 W.2.1]); (case hx => rfl); (case hy => rfl); (case p => (with_reducible repeat constructor)); (case hr => exact rdw_own (v := v9) (by (with_reducible repeat constructor))); (case hl => rfl); (case h1 => exact one_int _); (case hb => omega); (case hn => rfl))
          intro v10
          (refine Tri.shape (e := 3) (size := 1) (v := v10) (by (with_reducible repeat constructor)) ?_; rintro ⟨B2, b2, rfl⟩)
          (apply TriN.back; (case hp => exact ⟨_, rfl⟩); (case p => (repeat first | with_reducible constructor | constructor)))
          (apply TriN.less; (case ho => rfl); (case hg => rfl); (case hr => kernel_rfl); (try dsimp only [List.cons_append, List.nil_append]))
          (apply o_store; (case hx => rfl); (case hy => rfl); (case h1 => rfl); (case p => (with_reducible repeat constructor)); (case hi => exact (by decide : 2 < 4)))
          (apply TriM.back; (case p => (repeat first | with_reducible constructor | constructor)))
          ((first | (apply TriM.q 13; rfl; rfl) | (apply TriM.qYes 13; rfl; rfl; rfl; with_reducible rfl)); kernel_rfl; rfl; rfl; (intro F K hK; apply o_fieldAddr; rfl; rfl; exact hK))
          (apply TriM.a 14; (case ho => rfl); (case hg => rfl); (case hr => kernel_rfl); (try dsimp only [List.cons_append, List.nil_append]))
          (apply o_store; (case hx => rfl); (case hy => rfl); (case h1 => rfl); (case p => (with_reducible repeat constructor)); (case hi => exact (by decide : 3 < 4)))
          (apply TriM.back; (case p => (repeat first | with_reducible constructor | constructor)))
          (apply TriM.nil; (case hr => kernel_rfl); (try dsimp only [List.cons_append, List.nil_append]))
          (refine Tri.blockN (Tri.thenN (Tri.region ?_)); apply Tri.op; rfl; apply o_add64; rfl; rfl; rfl; (omega); apply Tri.op; rfl; apply o_move; rfl; rfl; refine Tri.nil (Tri.thenN ?_))
          ((with_reducible apply Tri.eqA (A := own 98 2 (.slice A2 (i + 1) a2) _ _) (B := own 98 2 (.slice A2 (i + 1) a2) (i + 1) (KL ((xs.take (i + 1)).map (least3 leaf))))); (case p => (with_reducible repeat constructor)); (case e => (rw [hkl])))
          ((with_reducible apply Tri.eqA (A := own 3 1 (.slice B2 (i + 1) b2) _ _) (B := own 3 1 (.slice B2 (i + 1) b2) (i + 1) (NL (unGo leaf v (xs.take (i + 1))).2.1))); (case p => (with_reducible repeat constructor)); (case e => (rw [hnl])))
          ((with_reducible apply Tri.eqA (A := blk pv _ _) (B := blk pv 194 (viewL d (unGo leaf v (xs.take (i + 1))).1))); (case p => (with_reducible repeat constructor)); (case e => (rw [hsn.1])))
          ((with_reducible apply Tri.eqA (A := DSK d _) (B := DSK d (unGo leaf v (xs.take (i + 1))).1.S)); (case p => (with_reducible repeat constructor)); (case e => (rw [hsn.1])))
          ((with_reducible apply Tri.eqA (A := blk b6 _ _) (B := blk b6 33 (ndLL false (.slice none 0 0) (.slice A2 (i + 1) a2) (.slice B2 (i + 1) b2)))); (case p => (with_reducible repeat constructor)); (case e => rfl))
          ((with_reducible apply Tri.seti 13 (((i + 1 : Nat) : Int))); (case h => rfl); (case hi => omega))
          (apply Tri.again (y := ⟨i + 1, A2, a2, B2, b2, hix', he'⟩); (case p => ((try dsimp only); (repeat (first | exact Pulls.nil | (apply Pulls.cons; (case a => (first | ((repeat (first | with_reducible exact Gv.Pull.head | with_reducible apply Gv.Pull.tail)); done) | (repeat (first | exact Gv.Pull.head | apply Gv.Pull.tail))))))))); (case hm => ((try dsimp only); omega)); (try dsimp only))
          (repeat (first | exact trivial | refine And.intro (by rfl) ?_))
        · (apply o_litSl (ys := [.int .i64 W.2.1]); (case hp => (repeat first | exact pev.nil | (apply pev.cons; case a => rfl))); (case hm => rfl); (case hf => rfl); (case hn => rfl); intro v9)
          (apply TriN.back; (case hp => exact ⟨_, rfl⟩); (case p => (repeat first | with_reducible constructor | constructor)))
          (apply TriN.a 5; (case ho => rfl); (case hg => rfl); (case hr => kernel_rfl); (try dsimp only [List.cons_append, List.nil_append]))
          (apply o_append (m2 := 1) (news := keyL (leastN leaf y.E y.K)); (case hx => rfl); (case hy => rfl); (case p => (with_reducible repeat constructor)); (case hr => exact rdw_own (v := v4) (by (with_reducible repeat constructor))); (case hl => rfl); (case h1 => exact keyL_one _); (case hb => omega); (case hn => rfl))
          intro v5
          (refine Tri.shape (e := 98) (size := 2) (v := v5) (by (with_reducible repeat constructor)) ?_; rintro ⟨A2, a2, rfl⟩)
          (apply TriN.back; (case hp => exact ⟨_, rfl⟩); (case p => (repeat first | with_reducible constructor | constructor)))
          ((apply TriN.p 11; (case ho => rfl); (case hg => rfl); (case hB => kernel_rfl); (case hd => rfl); (case hn => rfl); (case h => (intro F K hK; (try dsimp only [List.cons_append, List.nil_append]); apply o_fieldAddr; rfl; rfl; exact hK))))
          (apply TriN.a 10; (case ho => rfl); (case hg => rfl); (case hr => kernel_rfl); (try dsimp only [List.cons_append, List.nil_append]))
          (apply o_append (m2 := 1) (news := [.int .i64 W.2.1]); (case hx => rfl); (case hy => rfl); (case p => (with_reducible repeat constructor)); (case hr => exact rdw_own (v := v9) (by (with_reducible repeat constructor))); (case hl => rfl); (case h1 => exact one_int _); (case hb => omega); (case hn => rfl))
          intro v10
          (refine Tri.shape (e := 3) (size := 1) (v := v10) (by (with_reducible repeat constructor)) ?_; rintro ⟨B2, b2, rfl⟩)
          (apply TriN.back; (case hp => exact ⟨_, rfl⟩); (case p => (repeat first | with_reducible constructor | constructor)))
          (apply TriN.less; (case ho => rfl); (case hg => rfl); (case hr => kernel_rfl); (try dsimp only [List.cons_append, List.nil_append]))
          (apply o_store; (case hx => rfl); (case hy => rfl); (case h1 => rfl); (case p => (with_reducible repeat constructor)); (case hi => exact (by decide : 2 < 4)))
          (apply TriM.back; (case p => (repeat first | with_reducible constructor | constructor)))
          ((first | (apply TriM.q 13; rfl; rfl) | (apply TriM.qYes 13; rfl; rfl; rfl; with_reducible rfl)); kernel_rfl; rfl; rfl; (intro F K hK; apply o_fieldAddr; rfl; rfl; exact hK))
          (apply TriM.a 14; (case ho => rfl); (case hg => rfl); (case hr => kernel_rfl); (try dsimp only [List.cons_append, List.nil_append]))
          (apply o_store; (case hx => rfl); (case hy => rfl); (case h1 => rfl); (case p => (with_reducible repeat constructor)); (case hi => exact (by decide : 3 < 4)))
          (apply TriM.back; (case p => (repeat first | with_reducible constructor | constructor)))
          (apply TriM.nil; (case hr => kernel_rfl); (try dsimp only [List.cons_append, List.nil_append]))
          (refine Tri.blockN (Tri.thenN (Tri.region ?_)); apply Tri.op; rfl; apply o_add64; rfl; rfl; rfl; (omega); apply Tri.op; rfl; apply o_move; rfl; rfl; refine Tri.nil (Tri.thenN ?_))
          ((with_reducible apply Tri.eqA (A := own 98 2 (.slice A2 (i + 1) a2) _ _) (B := own 98 2 (.slice A2 (i + 1) a2) (i + 1) (KL ((xs.take (i + 1)).map (least3 leaf))))); (case p => (with_reducible repeat constructor)); (case e => (rw [hkl])))
          ((with_reducible apply Tri.eqA (A := own 3 1 (.slice B2 (i + 1) b2) _ _) (B := own 3 1 (.slice B2 (i + 1) b2) (i + 1) (NL (unGo leaf v (xs.take (i + 1))).2.1))); (case p => (with_reducible repeat constructor)); (case e => (rw [hnl])))
          ((with_reducible apply Tri.eqA (A := blk pv _ _) (B := blk pv 194 (viewL d (unGo leaf v (xs.take (i + 1))).1))); (case p => (with_reducible repeat constructor)); (case e => (rw [hsn.1])))
          ((with_reducible apply Tri.eqA (A := DSK d _) (B := DSK d (unGo leaf v (xs.take (i + 1))).1.S)); (case p => (with_reducible repeat constructor)); (case e => (rw [hsn.1])))
          ((with_reducible apply Tri.eqA (A := blk b6 _ _) (B := blk b6 33 (ndLL false (.slice none 0 0) (.slice A2 (i + 1) a2) (.slice B2 (i + 1) b2)))); (case p => (with_reducible repeat constructor)); (case e => rfl))
          ((with_reducible apply Tri.seti 13 (((i + 1 : Nat) : Int))); (case h => rfl); (case hi => omega))
          (apply Tri.again (y := ⟨i + 1, A2, a2, B2, b2, hix', he'⟩); (case p => ((try dsimp only); (repeat (first | exact Pulls.nil | (apply Pulls.cons; (case a => (first | ((repeat (first | with_reducible exact Gv.Pull.head | with_reducible apply Gv.Pull.tail)); done) | (repeat (first | exact Gv.Pull.head | apply Gv.Pull.tail))))))))); (case hm => ((try dsimp only); omega)); (try dsimp only))
          (repeat (first | exact trivial | refine And.intro (by rfl) ?_))
      · (apply o_litSl (ys := [.int .i64 W.2.1]); (case hp => (repeat first | exact pev.nil | (apply pev.cons; case a => rfl))); (case hm => rfl); (case hf => rfl); (case hn => rfl); intro v9)
        (apply TriN.back; (case hp => exact ⟨_, rfl⟩); (case p => (repeat first | with_reducible constructor | constructor)))
        (apply TriN.a 4; (case ho => rfl); (case hg => rfl); (case hr => kernel_rfl); (try dsimp only [List.cons_append, List.nil_append]))
        (apply o_litSl (ys := keyL (leastN leaf y.E y.K)); (case hp => (repeat first | exact pev.nil | (apply pev.cons; case a => rfl))); (case hm => rfl); (case hf => rfl); (case hn => rfl); intro v4)
        (apply TriN.back; (case hp => exact ⟨_, rfl⟩); (case p => (repeat first | with_reducible constructor | constructor)))
        (apply TriN.a 5; (case ho => rfl); (case hg => rfl); (case hr => kernel_rfl); (try dsimp only [List.cons_append, List.nil_append]))
        (apply o_append (m2 := 1) (news := keyL (leastN leaf y.E y.K)); (case hx => rfl); (case hy => rfl); (case p => (with_reducible repeat constructor)); (case hr => exact rdw_own (v := v4) (by (with_reducible repeat constructor))); (case hl => rfl); (case h1 => exact keyL_one _); (case hb => omega); (case hn => rfl))
        intro v5
        (refine Tri.shape (e := 98) (size := 2) (v := v5) (by (with_reducible repeat constructor)) ?_; rintro ⟨A2, a2, rfl⟩)
        (apply TriN.back; (case hp => exact ⟨_, rfl⟩); (case p => (repeat first | with_reducible constructor | constructor)))
        ((apply TriN.p 11; (case ho => rfl); (case hg => rfl); (case hB => kernel_rfl); (case hd => rfl); (case hn => rfl); (case h => (intro F K hK; (try dsimp only [List.cons_append, List.nil_append]); apply o_fieldAddr; rfl; rfl; exact hK))))
        (apply TriN.a 10; (case ho => rfl); (case hg => rfl); (case hr => kernel_rfl); (try dsimp only [List.cons_append, List.nil_append]))
        (apply o_append (m2 := 1) (news := [.int .i64 W.2.1]); (case hx => rfl); (case hy => rfl); (case p => (with_reducible repeat constructor)); (case hr => exact rdw_own (v := v9) (by (with_reducible repeat constructor))); (case hl => rfl); (case h1 => exact one_int _); (case hb => omega); (case hn => rfl))
        intro v10
        (refine Tri.shape (e := 3) (size := 1) (v := v10) (by (with_reducible repeat constructor)) ?_; rintro ⟨B2, b2, rfl⟩)
        (apply TriN.back; (case hp => exact ⟨_, rfl⟩); (case p => (repeat first | with_reducible constructor | constructor)))
        (apply TriN.less; (case ho => rfl); (case hg => rfl); (case hr => kernel_rfl); (try dsimp only [List.cons_append, List.nil_append]))
        (apply o_store; (case hx => rfl); (case hy => rfl); (case h1 => rfl); (case p => (with_reducible repeat constructor)); (case hi => exact (by decide : 2 < 4)))
        (apply TriM.back; (case p => (repeat first | with_reducible constructor | constructor)))
        ((first | (apply TriM.q 13; rfl; rfl) | (apply TriM.qYes 13; rfl; rfl; rfl; with_reducible rfl)); kernel_rfl; rfl; rfl; (intro F K hK; apply o_fieldAddr; rfl; rfl; exact hK))
        (apply TriM.a 14; (case ho => rfl); (case hg => rfl); (case hr => kernel_rfl); (try dsimp only [List.cons_append, List.nil_append]))
        (apply o_store; (case hx => rfl); (case hy => rfl); (case h1 => rfl); (case p => (with_reducible repeat constructor)); (case hi => exact (by decide : 3 < 4)))
        (apply TriM.back; (case p => (repeat first | with_reducible constructor | constructor)))
        (apply TriM.nil; (case hr => kernel_rfl); (try dsimp only [List.cons_append, List.nil_append]))
        (refine Tri.blockN (Tri.thenN (Tri.region ?_)); apply Tri.op; rfl; apply o_add64; rfl; rfl; rfl; (omega); apply Tri.op; rfl; apply o_move; rfl; rfl; refine Tri.nil (Tri.thenN ?_))
        ((with_reducible apply Tri.eqA (A := own 98 2 (.slice A2 (i + 1) a2) _ _) (B := own 98 2 (.slice A2 (i + 1) a2) (i + 1) (KL ((xs.take (i + 1)).map (least3 leaf))))); (case p => (with_reducible repeat constructor)); (case e => (rw [hkl])))
        ((with_reducible apply Tri.eqA (A := own 3 1 (.slice B2 (i + 1) b2) _ _) (B := own 3 1 (.slice B2 (i + 1) b2) (i + 1) (NL (unGo leaf v (xs.take (i + 1))).2.1))); (case p => (with_reducible repeat constructor)); (case e => (rw [hnl])))
        ((with_reducible apply Tri.eqA (A := blk pv _ _) (B := blk pv 194 (viewL d (unGo leaf v (xs.take (i + 1))).1))); (case p => (with_reducible repeat constructor)); (case e => (rw [hsn.1])))
        ((with_reducible apply Tri.eqA (A := DSK d _) (B := DSK d (unGo leaf v (xs.take (i + 1))).1.S)); (case p => (with_reducible repeat constructor)); (case e => (rw [hsn.1])))
        ((with_reducible apply Tri.eqA (A := blk b6 _ _) (B := blk b6 33 (ndLL false (.slice none 0 0) (.slice A2 (i + 1) a2) (.slice B2 (i + 1) b2)))); (case p => (with_reducible repeat constructor)); (case e => rfl))
        ((with_reducible apply Tri.seti 13 (((i + 1 : Nat) : Int))); (case h => rfl); (case hi => omega))
        (apply Tri.again (y := ⟨i + 1, A2, a2, B2, b2, hix', he'⟩); (case p => ((try dsimp only); (repeat (first | exact Pulls.nil | (apply Pulls.cons; (case a => (first | ((repeat (first | with_reducible exact Gv.Pull.head | with_reducible apply Gv.Pull.tail)); done) | (repeat (first | exact Gv.Pull.head | apply Gv.Pull.tail))))))))); (case hm => ((try dsimp only); omega)); (try dsimp only))
        (repeat (first | exact trivial | refine And.intro (by rfl) ?_))
    · (apply Tri.op; rfl; apply o_move; rfl; rfl; apply Tri.op; rfl; apply o_extract; rfl; rfl; rfl; apply Tri.op; rfl; apply o_extract; rfl; rfl; rfl; apply Tri.op; rfl; apply o_assign; rfl; rfl; apply Tri.op; rfl; apply o_assign; rfl; rfl; refine Tri.nil (Tri.thenN (Tri.seq (Tri.seq (Tri.region ?_)))); apply Tri.op; rfl; apply o_move; rfl; rfl; apply Tri.op; rfl; apply o_neq; rfl; rfl; rfl; refine Tri.nil (Tri.thenN ?_))
      ((with_reducible apply Tri.setb 24 (true)); (case h => rfl); (case hi => (rw [decide_eq_true]; omega)))
      (apply Tri.condT; rfl; rfl; refine Tri.seq (Tri.region ?_); apply Tri.op; rfl; apply o_build0; rfl; apply Tri.op; rfl; apply o_move; rfl; rfl; apply Tri.op; rfl)
      have hst := unGo_stop leaf (xs.take (i + 1)) v (xs.drop (i + 1)) (by rw [hsn.2.1]; exact hz)
      rw [List.take_append_drop] at hst
      have hun : unN leaf v xs = (W.1, ⟨[], [], []⟩, W.2.2) := by
        rw [unN, hst, hsn.2.1, if_neg hz, hsn.1]
      rw [hun]
      (apply o_storeAll (ys := ndLL false (.slice none 0 0) (.slice none 0 0) (.slice none 0 0)); (case hx => rfl); (case hy => rfl); (case p => (with_reducible repeat constructor)); (case hl => rfl); (case hc => rfl); (case h1 => exact ndLL_one false none none none 0 0 0 0 0 0))
      (apply Tri.op; rfl; apply o_assign; rfl; rfl; refine Tri.nil (Tri.thenN (Tri.ret (Tri.thenR (Tri.blockR (Tri.thenR (Tri.thenR (Tri.blockR (Tri.thenR ?_)))))))))
      (with_reducible apply Tri.ownNil 98 2)
      (with_reducible apply Tri.ownNil 3 1)
      (apply Tri.fin; (case hr => rfl); (case h => exact ResL.cons ((Res1.agg rfl (by (with_reducible repeat constructor)) (by rw [List.drop_zero]; exact List.take_of_length_le (Nat.le_of_eq (rfl : (ndLL false (.slice none 0 0) (.slice none 0 0) (.slice none 0 0)).length = 4))) (rfl : (ndLL false (.slice none 0 0) (.slice none 0 0) (.slice none 0 0)).length = 4))) (ResL.cons (Res1.tmp rfl) (ResL.nil))); (apply fin_R (Hn := [blk pv 194 (viewL d W.1), DSK d W.1.S, own 33 4 (.slice AR VV.length cr) VV.length (NDL leaf VV), manyRd (RDS VV xs), own 98 2 (.slice none 0 0) 0 [], own 3 1 (.slice none 0 0) 0 []])); (case p => exact (by (repeat first | with_reducible constructor | constructor))); exact ⟨none, 0, none, 0, rfl, rfl⟩)
  · have hil : i = xs.length := by omega
    subst hil
    rw [List.take_length] at he ⊢
    have hct := unGo_cnt leaf xs v he
    have hun : unN leaf v xs = ((unGo leaf v xs).1, ⟨[], xs.map (least3 leaf), (unGo leaf v xs).2.1⟩, 0) := by rw [unN, if_pos he, he]
    rw [hun]
    ((with_reducible refine Tri.exit (Tri.thenE (Tri.thenE (Tri.blockE (Tri.thenN (Tri.seq (Tri.region ?_))))))); apply Tri.op; rfl)
    (apply o_loadAll (cs := ndLL false (.slice none 0 0) (.slice A xs.length a) (.slice B xs.length b)); (case hx => rfl); (case p => exact (by (with_reducible repeat constructor))); (case hl => rfl); (case hn => rfl))
    (apply Tri.op; rfl)
    (apply o_storeAll (ys := ndLL false (.slice none 0 0) (.slice A xs.length a) (.slice B xs.length b)); (case hx => rfl); (case hy => rfl); (case p => (with_reducible repeat constructor)); (case hl => rfl); (case hc => rfl); (case h1 => exact ndLL_one false none A B 0 0 _ a _ b))
    (apply Tri.op; rfl; apply o_assign; rfl; rfl; refine Tri.nil (Tri.thenN (Tri.ret ?_)))
    have hkl : (xs.map (least3 leaf)).length = xs.length := List.length_map _
    (apply Tri.fin; (case hr => rfl); (case h => exact ResL.cons ((Res1.agg rfl (by (with_reducible repeat constructor)) (by rw [List.drop_zero]; exact List.take_of_length_le (Nat.le_of_eq (rfl : (ndLL false (.slice none 0 0) (.slice A xs.length a) (.slice B xs.length b)).length = 4))) (rfl : (ndLL false (.slice none 0 0) (.slice A xs.length a) (.slice B xs.length b)).length = 4))) (ResL.cons (Res1.tmp rfl) (ResL.nil))); (apply fin_R (Hn := [blk pv 194 (viewL d (unGo leaf v xs).1), DSK d (unGo leaf v xs).1.S, own 33 4 (.slice AR VV.length cr) VV.length (NDL leaf VV), manyRd (RDS VV xs), own 98 2 (.slice A xs.length a) xs.length (KL (xs.map (least3 leaf))), own 3 1 (.slice B xs.length b) xs.length (NL (unGo leaf v xs).2.1)])); (case p => exact (by (repeat first | with_reducible constructor | constructor))); exact ⟨A, a, B, b, by show _ = Value.tuple #[ndW false (.slice none 0 0) (.slice A (xs.map (least3 leaf)).length a) (.slice B (unGo leaf v xs).2.1.length b), _]; rw [hkl, hct]; rfl, by show _ = [_, _, _, _, own 98 2 (.slice A (xs.map (least3 leaf)).length a) (xs.map (least3 leaf)).length (KL (xs.map (least3 leaf))), own 3 1 (.slice B (unGo leaf v xs).2.1.length b) (unGo leaf v xs).2.1.length (NL (unGo leaf v xs).2.1)]; rw [hkl, hct]⟩)
end Go.Proofs.Ytckdlfbbkemklaa
end
section
/- tree: a view's stacked: the walk. -/
namespace Go.Proofs.Ytckdlfbbkemklaa
open Go Go.RowKit Go.Gv
set_option linter.unusedVariables false
set_option linter.unusedSimpArgs false

def shp (VV : List (Value × Value × Value)) : Prop := ∀ v ∈ VV, ∃ A a B b C c i j k, v = (Value.slice A i a, Value.slice B j b, Value.slice C k c)
/-- a level that is to be stacked -/
structure SK (R0 : VS × (Int × Nat) × Nat) where
  f : Nat
  leaf : Bool
  v : VS
  xs : List ND3
  h : Nat
  AR : Option Addr
  cr : Nat
  VV : List (Value × Value × Value)
  hR0 : stN f leaf v xs h = R0
  hf : xs.length ≤ f + 1
  h1 : 1 ≤ xs.length
  hv : v.ok
  hl : v.S.W.length + 16 * xs.length ≤ 800000
  hh : h + xs.length ≤ 60000
  hxl : VV.length = xs.length
  hW : shp VV
  hR : ∀ x ∈ xs, ∀ e ∈ x.E, entR e
theorem two_int (a b : Int) : ∀ y ∈ [Value.int .i64 a, Value.int .i64 b], y.oneCell' = true := fun y hy => by simp at hy; rcases hy with rfl | rfl <;> rfl
end Go.Proofs.Ytckdlfbbkemklaa
end
section
/- tree: a root that was a child; a root that is written: the walk. -/
namespace Go.Proofs.Ytckdlfbbkemklaa
open Go Go.RowKit Go.Gv
set_option linter.unusedVariables false
set_option linter.unusedSimpArgs false

/-- a root that is looked for below -/
structure LW (R0 : VS × (Int × Nat) × Nat) where
  h : Nat
  v : VS
  a : Int
  hR : lwN h v a = R0
  hG : lwG h v a
  hv : v.ok
  hl : v.S.W.length ≤ 1000000
  hh : h ≤ 1000
set_option maxHeartbeats 8000000 in
theorem view_lower (pv d : Nat) (v : VS) (a : Int) (h : Nat) (hv : v.ok) (hl : v.S.W.length ≤ 1000000) (hh : h ≤ 1000) (hG : lwG h v a) :
    Gv.Spec Try.prog 131 #[.pointer (some ⟨pv, 0, none⟩), .int .i64 a, .int .i64 (h : Int)] [blk pv 194 (viewL d v), DSK d v.S]
    (fun r H' => r = .tuple #[.agg #[.int .i64 (lwN h v a).2.1.1, .int .i64 ((lwN h v a).2.1.2 : Int)], .int .i64 ((lwN h v a).2.2 : Int)] ∧ H' = [blk pv 194 (viewL d (lwN h v a).1), DSK d (lwN h v a).1.S]) := by
  refine Gv.Spec.of (fun w h0 hw => ?_)
  refine Calls.enter Try.func131 rfl rfl rfl hw ?_
  simp only [argSlots]
  (try dsimp only [List.cons_append, List.nil_append])
  obtain ⟨R0, hR0⟩ : ∃ R, R = lwN h v a := ⟨_, rfl⟩
  rw [← hR0]
  (refine Tri.seq (Tri.region ?_); apply Tri.op; rfl)
  (apply o_alloc; (case hn => rfl); intro b6)
  (apply Tri.op; rfl; apply o_assign; rfl; rfl; refine Tri.nil (Tri.thenN (Tri.seq (Tri.block ?_))))
  (apply Tri.loop (α := LW R0) (m := fun x => x.h) (Lx := fun x => [(0, .pointer (some ⟨pv, 0, none⟩)), (1, .int .i64 x.a), (2, .int .i64 (x.h : Int)), (6, .pointer (some ⟨b6, 0, none⟩))]) (Hx := fun x => [blk b6 48 [.int .i64 0, .int .i64 0], blk pv 194 (viewL d x.v), DSK d x.v.S, Ex h0]) (x0 := ⟨h, v, a, hR0.symm, hG, hv, hl, hh⟩); (case hL => ((try dsimp only); (repeat (first | exact trivial | refine And.intro (by rfl) ?_)))); (case hH => ((try dsimp only); apply St.all; (repeat first | with_reducible constructor | constructor)))); (rintro ⟨h, v, a, hR, hG, hv, hl, hh⟩ mx hmx; (try dsimp only at hmx ⊢))
  (refine Tri.seq (Tri.seq (Tri.region ?_)); apply Tri.op; rfl; apply o_move; rfl; rfl; apply Tri.op; rfl; apply o_gtr; rfl; rfl; rfl; refine Tri.nil (Tri.thenN ?_))
  (apply Tri.condD; (case hc => rfl); (all_goals intro hc))
  · obtain ⟨g, rfl⟩ : ∃ g, h = g + 2 := ⟨h - 2, by omega⟩
    rw [lwG] at hG
    rw [lwN] at hR
    obtain ⟨ha, hre, hd1, hd2, hgi, hG'⟩ := hG
    have hgok := giN_ok hv a
    have hgS := giN_S v a
    obtain ⟨N, hN⟩ : ∃ N, N = rdN v.S a false := ⟨_, rfl⟩
    rw [← hN] at hre hd1 hd2 hG' hR
    have hNd := view_Node pv d v a false hv hl ha
    rw [← hN] at hNd
    (refine Tri.skip (Tri.thenN (Tri.block (Tri.seq (Tri.region ?_)))); apply Tri.op; rfl; apply o_move; rfl; rfl; apply Tri.op; rfl; apply o_move; rfl; rfl; apply Tri.op; rfl)
    (apply o_callS (hs := hNd); (case hargs => (repeat first | exact evs.nil | (apply evs.cons; case a => rfl))); (case p => (repeat first | with_reducible constructor | constructor)); (case hn => rfl))
    rintro r1 H1 ⟨A, c, B, e, C, f, rfl, rfl⟩
    (try dsimp only [List.cons_append, List.nil_append])
    (apply Tri.op; rfl; apply o_move; rfl; rfl; apply Tri.op; rfl; apply o_extract; rfl; rfl; rfl; apply Tri.op; rfl; apply o_extract; rfl; rfl; rfl; apply Tri.op; rfl)
    (apply o_alloc; (case hn => rfl); intro b8)
    (apply Tri.op; rfl)
    (apply o_storeAll (ys := ndLL N.leaf (.slice A N.E.length c) (.slice B N.K.length e) (.slice C N.D.length f)); (case hx => rfl); (case hy => rfl); (case p => (with_reducible repeat constructor)); (case hl => rfl); (case hc => rfl); (case h1 => exact ndLL_one N.leaf A B C _ c _ e _ f))
    (apply Tri.op; rfl; apply o_assign; rfl; rfl; refine Tri.nil (Tri.thenN (Tri.seq (Tri.seq (Tri.region ?_)))); apply Tri.op; rfl; apply o_move; rfl; rfl; apply Tri.op; rfl; apply o_neq; rfl; rfl; rfl; refine Tri.nil (Tri.thenN ?_))
    ((with_reducible apply Tri.setb 20 (false)); (case h => rfl); (case hi => (rw [hre]; rfl)))
    (apply Tri.condF; rfl; rfl; refine Tri.skip (Tri.thenN (Tri.seq (Tri.seq (Tri.region ?_)))); apply Tri.op; rfl; apply o_fieldAddr; rfl; rfl; apply Tri.op; rfl; apply o_load; rfl; (with_reducible repeat constructor); rfl; rfl; apply Tri.op; rfl; apply o_len; rfl; rfl; apply Tri.op; rfl; apply o_gtr; rfl; rfl; rfl; refine Tri.nil (Tri.thenN ?_))
    by_cases hd : 1 < N.D.length
    · rw [if_pos hd] at hR
      ((with_reducible apply Tri.setb 26 (true)); (case h => rfl); (case hi => (rw [decide_eq_true]; omega)))
      (apply Tri.condT; rfl; rfl; (with_reducible refine Tri.exit (Tri.thenE ?_)); apply Tri.blockE'; rfl; refine Tri.thenE (Tri.blockE (Tri.thenN (Tri.seq (Tri.region ?_)))); apply Tri.op; rfl; apply o_move; rfl; rfl; apply Tri.op; rfl; apply o_move; rfl; rfl; apply Tri.op; rfl)
      (apply o_build (ys := [.int .i64 a, .int .i64 ((g + 2 : Nat) : Int)]); (case hp => (repeat first | exact pev.nil | (apply pev.cons; case a => rfl))); (case hf => rfl); (case hn => rfl))
      (apply Tri.op; rfl)
      (apply o_storeAll (ys := [.int .i64 a, .int .i64 ((g + 2 : Nat) : Int)]); (case hx => rfl); (case hy => rfl); (case p => (with_reducible repeat constructor)); (case hl => rfl); (case hc => rfl); (case h1 => exact two_int _ _))
      (apply Tri.op; rfl; apply o_assign; rfl; rfl; refine Tri.nil (Tri.thenN (Tri.ret ?_)))
      rw [← hR]
      (apply Tri.fin; (case hr => rfl); (case h => exact ResL.cons ((Res1.agg rfl (by (with_reducible repeat constructor)) (by rw [List.drop_zero]; exact List.take_of_length_le (Nat.le_of_eq (rfl : [Value.int .i64 a, Value.int .i64 ((g + 2 : Nat) : Int)].length = 2))) (rfl : [Value.int .i64 a, Value.int .i64 ((g + 2 : Nat) : Int)].length = 2))) (ResL.cons (Res1.tmp rfl) (ResL.nil))); (apply fin_R (Hn := [blk pv 194 (viewL d v), DSK d v.S])); (case p => exact (by (repeat first | with_reducible constructor | constructor))); exact ⟨rfl, rfl⟩)
    · rw [if_neg hd] at hR
      have hgv := view_give pv d v a hv
      ((with_reducible apply Tri.setb 26 (false)); (case h => rfl); (case hi => exact decide_eq_false (by omega)))
      (apply Tri.condF; rfl; rfl; refine Tri.skip (Tri.thenN (Tri.seq (Tri.seq (Tri.region ?_)))); apply Tri.op; rfl; apply o_move; rfl; rfl; apply Tri.op; rfl; apply o_move; rfl; rfl; apply Tri.op; rfl)
      (apply o_callS (hs := hgv); (case hargs => (repeat first | exact evs.nil | (apply evs.cons; case a => rfl))); (case p => (repeat first | with_reducible constructor | constructor)); (case hn => rfl))
      rintro r2 H2 ⟨rfl, rfl⟩
      (try dsimp only [List.cons_append, List.nil_append])
      (apply Tri.op; rfl; apply o_assign; rfl; rfl; refine Tri.nil (Tri.thenN (Tri.seq (Tri.region ?_))); apply Tri.op; rfl; apply o_move; rfl; rfl; apply Tri.op; rfl; apply o_neq; rfl; rfl; rfl; refine Tri.nil (Tri.thenN ?_))
      ((with_reducible apply Tri.setb 31 (false)); (case h => rfl); (case hi => (rw [hgi]; rfl)))
      have hN0 : (NL N.D)[0]? = some (.int .i64 (N.D.getD 0 0)) := by
        obtain ⟨x, l, hx⟩ : ∃ x l, N.D = x :: l := by
          cases hh : N.D with
          | nil => rw [hh] at hd1; exact absurd hd1 (by decide)
          | cons x l => exact ⟨x, l, rfl⟩
        rw [hx]; rfl
      have hlt0 : 0 < N.D.length := hd1
      have hg1 : g + 1 ≤ 1000 := by omega
      have hgl : (giN v a).1.S.W.length ≤ 1000000 := by rw [hgS]; exact hl
      have hdk : DSK d v.S = DSK d (giN v a).1.S := by rw [hgS]
      rw [hdk]
      (apply Tri.condF; rfl; rfl; refine Tri.skip (Tri.thenN (Tri.region ?_)); apply Tri.op; rfl; apply o_fieldAddr; rfl; rfl; apply Tri.op; rfl; apply o_load; rfl; (with_reducible repeat constructor); rfl; rfl; apply Tri.op; rfl)
      (apply o_ixOwn (j := 0); (case hx => rfl); (case hy => rfl); (case p => (with_reducible repeat constructor)); (case hj => rfl); (case hlt => exact hlt0); (case hn => rfl))
      (apply Tri.op; rfl)
      (apply o_loadOwn (j := 0); (case hx => rfl); (case p => (with_reducible repeat constructor)); (case hv => exact hN0); (case hn => rfl))
      (apply Tri.op; rfl; apply o_move; rfl; rfl; apply Tri.op; rfl; apply o_sub64; rfl; rfl; rfl; (omega); apply Tri.op; rfl; apply o_assign; rfl; rfl; apply Tri.op; rfl; apply o_assign; rfl; rfl; refine Tri.nil (Tri.blockN (Tri.thenN ?_)))
      ((with_reducible apply Tri.seti 2 (((g + 1 : Nat) : Int))); (case h => rfl); (case hi => omega))
      (apply Tri.again (y := ⟨g + 1, (giN v a).1, N.D.getD 0 0, hR, hG', hgok, hgl, hg1⟩); (case p => ((try dsimp only); (repeat (first | exact Pulls.nil | (apply Pulls.cons; (case a => (first | ((repeat (first | with_reducible exact Gv.Pull.head | with_reducible apply Gv.Pull.tail)); done) | (repeat (first | exact Gv.Pull.head | apply Gv.Pull.tail))))))))); (case hm => ((try dsimp only); omega)); (try dsimp only))
      (repeat (first | exact trivial | refine And.intro (by rfl) ?_))
  · have h1 : h ≤ 1 := by omega
    rw [lwN_one v a h1] at hR
    ((with_reducible refine Tri.exit (Tri.thenE (Tri.thenE (Tri.blockE (Tri.thenN (Tri.seq (Tri.region ?_))))))); apply Tri.op; rfl; apply o_move; rfl; rfl; apply Tri.op; rfl; apply o_move; rfl; rfl; apply Tri.op; rfl)
    (apply o_build (ys := [.int .i64 a, .int .i64 (h : Int)]); (case hp => (repeat first | exact pev.nil | (apply pev.cons; case a => rfl))); (case hf => rfl); (case hn => rfl))
    (apply Tri.op; rfl)
    (apply o_storeAll (ys := [.int .i64 a, .int .i64 (h : Int)]); (case hx => rfl); (case hy => rfl); (case p => (with_reducible repeat constructor)); (case hl => rfl); (case hc => rfl); (case h1 => exact two_int _ _))
    (apply Tri.op; rfl; apply o_assign; rfl; rfl; refine Tri.nil (Tri.thenN (Tri.ret ?_)))
    rw [← hR]
    (apply Tri.fin; (case hr => rfl); (case h => exact ResL.cons ((Res1.agg rfl (by (with_reducible repeat constructor)) (by rw [List.drop_zero]; exact List.take_of_length_le (Nat.le_of_eq (rfl : [Value.int .i64 a, Value.int .i64 (h : Int)].length = 2))) (rfl : [Value.int .i64 a, Value.int .i64 (h : Int)].length = 2))) (ResL.cons (Res1.tmp rfl) (ResL.nil))); (apply fin_R (Hn := [blk pv 194 (viewL d v), DSK d v.S])); (case p => exact (by (repeat first | with_reducible constructor | constructor))); exact ⟨rfl, rfl⟩)
set_option maxHeartbeats 8000000 in
theorem view_single (pv d : Nat) (v : VS) (leaf : Bool) (AR : Option Addr) (cr : Nat) (VV : List (Value × Value × Value)) (xs : List ND3) (h : Nat) (hv : v.ok) (hl : v.S.W.length ≤ 800000) (hxl : VV.length = xs.length) (hW : shp VV) (hR : ∀ x ∈ xs, ∀ e ∈ x.E, entR e) (hh : h ≤ 1000) (hG : sgG leaf v xs h) :
    Gv.Spec Try.prog 111 #[.pointer (some ⟨pv, 0, none⟩), .slice AR VV.length cr, .int .i64 (h : Int)] [blk pv 194 (viewL d v), DSK d v.S, own 33 4 (.slice AR VV.length cr) VV.length (NDL leaf VV), manyRd (RDS VV xs)]
    (fun r H' => r = .tuple #[.agg #[.int .i64 (sgN leaf v xs h).2.1.1, .int .i64 ((sgN leaf v xs h).2.1.2 : Int)], .int .i64 ((sgN leaf v xs h).2.2 : Int)] ∧ H' = [blk pv 194 (viewL d (sgN leaf v xs h).1), DSK d (sgN leaf v xs h).1.S]) := by
  refine Gv.Spec.of (fun w h0 hw => ?_)
  refine Calls.enter Try.func111 rfl rfl rfl hw ?_
  simp only [argSlots]
  (try dsimp only [List.cons_append, List.nil_append])
  obtain ⟨hx1, hlw⟩ := hG
  obtain ⟨R0, hR0⟩ : ∃ R, R = sgN leaf v xs h := ⟨_, rfl⟩
  rw [← hR0]
  rw [sgN] at hR0
  (refine Tri.seq (Tri.region ?_); apply Tri.op; rfl)
  (apply o_alloc; (case hn => rfl); intro b6)
  (apply Tri.op; rfl; apply o_assign; rfl; rfl; refine Tri.nil (Tri.thenN (Tri.seq (Tri.block (Tri.seq (Tri.region ?_))))); apply Tri.op; rfl; apply o_move; rfl; rfl; apply Tri.op; rfl; apply o_len; rfl; rfl; apply Tri.op; rfl; apply o_eql; rfl; rfl; rfl; apply Tri.op; rfl; apply o_move; rfl; rfl)
  by_cases hx0 : xs.length = 0
  · rw [if_pos (Or.inl hx0)] at hR0
    ((with_reducible apply Tri.setb 14 (true)); (case h => rfl); (case hi => (rw [decide_eq_true]; omega)))
    ((iterate 5 apply Tri.opNo (c := true); (iterate 6 rfl)); apply Tri.op; rfl; apply o_pickT; (iterate 4 rfl); apply Tri.op; rfl; apply o_assign; rfl; rfl; refine Tri.nil (Tri.thenN ?_); apply Tri.condT; rfl; rfl; refine Tri.seq (Tri.region ?_); apply Tri.op; rfl; apply o_build0; rfl; apply Tri.op; rfl)
    (apply o_storeAll (ys := [.int .i64 0, .int .i64 0]); (case hx => rfl); (case hy => rfl); (case p => (with_reducible repeat constructor)); (case hl => rfl); (case hc => rfl); (case h1 => exact two_int _ _))
    (apply Tri.op; rfl; apply o_assign; rfl; rfl; refine Tri.nil (Tri.thenN (Tri.ret (Tri.blockR (Tri.thenR ?_)))))
    rw [hR0]
    (apply Tri.fin; (case hr => rfl); (case h => exact ResL.cons ((Res1.agg rfl (by (with_reducible repeat constructor)) (by rw [List.drop_zero]; exact List.take_of_length_le (Nat.le_of_eq (rfl : [Value.int .i64 0, Value.int .i64 0].length = 2))) (rfl : [Value.int .i64 0, Value.int .i64 0].length = 2))) (ResL.cons (Res1.tmp rfl) (ResL.nil))); (apply fin_R (Hn := [blk pv 194 (viewL d v), DSK d v.S])); (case p => exact (by (repeat first | with_reducible constructor | constructor))); exact ⟨rfl, rfl⟩)
  · have hx1' : xs.length = 1 := by omega
    obtain ⟨y, rfl⟩ : ∃ y, xs = [y] := ⟨xs[0]'(by omega), List.ext_getElem (by simp [hx1']) (fun i p q => by simp at q; subst q; rfl)⟩
    obtain ⟨vv, rfl⟩ : ∃ v, VV = [v] := ⟨VV[0]'(by rw [hxl]; simp), List.ext_getElem (by simp [hxl]) (fun i p q => by simp at q; subst q; rfl)⟩
    obtain ⟨A1, a1, B1, b1, C1, c1, i1, j1, k1, rfl⟩ := hW vv (List.mem_singleton.2 rfl)
    have hyd : ([y] : List ND3).getD 0 nd0 = y := rfl
    rw [hyd] at hR0 hlw
    have hRy := hR y (List.mem_singleton.2 rfl)
    have hmem := rds_at [(Value.slice A1 i1 a1, Value.slice B1 j1 b1, Value.slice C1 k1 c1)] [y] 0 _ y rfl rfl
    have hsz := node_Size leaf (.slice A1 i1 a1) (.slice B1 j1 b1) (.slice C1 k1 c1) y.E y.K y.D
    have hsz0 : sizeN leaf y.E y.D = szN leaf y := rfl
    rw [hsz0] at hsz
    obtain ⟨sz, hszd⟩ : ∃ sz, sz = szN leaf y := ⟨_, rfl⟩
    rw [← hszd] at hsz hR0
    obtain ⟨l, hld⟩ : ∃ l, l = RDS [(Value.slice A1 i1 a1, Value.slice B1 j1 b1, Value.slice C1 k1 c1)] [y] := ⟨_, rfl⟩
    rw [← hld] at hmem ⊢
    have hlen1 : [(Value.slice A1 i1 a1, Value.slice B1 j1 b1, Value.slice C1 k1 c1)].length = 1 := rfl
    rw [hlen1]
    ((with_reducible apply Tri.setb 14 (false)); (case h => rfl); (case hi => rfl))
    (apply Tri.opYes; rfl; rfl; rfl; apply o_move; rfl; rfl; apply Tri.opYes; rfl; rfl; rfl)
    (apply o_ixOwn (j := 0); (case hx => rfl); (case hy => rfl); (case p => (with_reducible repeat constructor)); (case hj => rfl); (case hlt => exact (by decide : 0 < 1)); (case hn => rfl))
    (apply Tri.opYes; rfl; rfl; rfl)
    (apply o_loadAggOwn; (case hx => rfl); (case p => (with_reducible repeat constructor)); (case hv => exact NDL_at _ 0 _ rfl); (case hl => rfl); (case hn => rfl))
    (apply Tri.opYes; rfl; rfl; rfl)
    (apply o_callV (hs := hsz); (case hargs => (repeat first | exact evs.nil | (apply evs.cons; case a => rfl))); (case hpre => exact fun w' hw' => ⟨rdw_many (by (with_reducible repeat constructor)) hmem.1 w' hw', rdw_many (by (with_reducible repeat constructor)) hmem.2.1 w' hw', rdw_many (by (with_reducible repeat constructor)) hmem.2.2 w' hw'⟩); (case hn => rfl))
    (apply Tri.opYes; rfl; rfl; rfl; apply o_eql; rfl; rfl; rfl; apply Tri.op; rfl; apply o_pickF; (iterate 4 rfl); apply Tri.op; rfl; apply o_assign; rfl; rfl; refine Tri.nil (Tri.thenN ?_))
    by_cases hs0 : sz = 0
    · rw [if_pos (Or.inr hs0)] at hR0
      ((with_reducible apply Tri.setb 10 (true)); (case h => rfl); (case hi => (rw [decide_eq_true]; omega)))
      (apply Tri.condT; rfl; rfl; refine Tri.seq (Tri.region ?_); apply Tri.op; rfl; apply o_build0; rfl; apply Tri.op; rfl)
      (apply o_storeAll (ys := [.int .i64 0, .int .i64 0]); (case hx => rfl); (case hy => rfl); (case p => (with_reducible repeat constructor)); (case hl => rfl); (case hc => rfl); (case h1 => exact two_int _ _))
      (apply Tri.op; rfl; apply o_assign; rfl; rfl; refine Tri.nil (Tri.thenN (Tri.ret (Tri.blockR (Tri.thenR ?_)))))
      rw [hR0]
      (apply Tri.fin; (case hr => rfl); (case h => exact ResL.cons ((Res1.agg rfl (by (with_reducible repeat constructor)) (by rw [List.drop_zero]; exact List.take_of_length_le (Nat.le_of_eq (rfl : [Value.int .i64 0, Value.int .i64 0].length = 2))) (rfl : [Value.int .i64 0, Value.int .i64 0].length = 2))) (ResL.cons (Res1.tmp rfl) (ResL.nil))); (apply fin_R (Hn := [blk pv 194 (viewL d v), DSK d v.S])); (case p => exact (by (repeat first | with_reducible constructor | constructor))); exact ⟨rfl, rfl⟩)
    · rw [if_neg (fun c => c.elim hx0 hs0)] at hR0
      ((with_reducible apply Tri.setb 10 (false)); (case h => rfl); (case hi => exact decide_eq_false (by omega)))
      (apply Tri.condF; rfl; rfl; refine Tri.seq (Tri.region ?_); apply Tri.op; rfl; apply o_move; rfl; rfl; apply Tri.op; rfl)
      (apply o_ixOwn (j := 0); (case hx => rfl); (case hy => rfl); (case p => (with_reducible repeat constructor)); (case hj => rfl); (case hlt => exact (by decide : 0 < 1)); (case hn => rfl))
      (apply Tri.op; rfl; apply o_fieldE; rfl; rfl; apply Tri.op; rfl)
      (apply o_loadOwn (j := 0 * 4 + 0) (v := .bool leaf); (case hx => rfl); (case p => (with_reducible repeat constructor)); (case hv => rfl); (case hn => rfl))
      (apply Tri.op; rfl; apply o_not; rfl; rfl; apply Tri.op; rfl; apply o_move; rfl; rfl)
      have hwr := view_write pv d v leaf (.slice A1 i1 a1) (.slice B1 j1 b1) (.slice C1 k1 c1) y l hv hl hmem.1 hmem.2.1 hmem.2.2 hRy
      by_cases hs1 : leaf = false ∧ sz = 1
      · obtain ⟨rfl, hs2⟩ := hs1
        rw [if_pos ⟨rfl, hs2⟩] at hR0
        obtain ⟨hh1, hG1⟩ := hlw rfl (by rw [← hszd]; exact hs2)
        have hdl : y.D.length = 1 := by rw [← hs2, hszd]; rfl
        have hN0 : (NL y.D)[0]? = some (.int .i64 (y.D.getD 0 0)) := by
          obtain ⟨x, l', hx⟩ : ∃ x l', y.D = x :: l' := by
            cases hh' : y.D with
            | nil => rw [hh'] at hdl; exact absurd hdl (by decide)
            | cons x l' => exact ⟨x, l', rfl⟩
          rw [hx]; rfl
        have hlt0 : 0 < y.D.length := by omega
        have hltl : 0 * 1 < (NL y.D).length := by rw [NL_lens y.D rfl]; omega
        have hlow := view_lower pv d v (y.D.getD 0 0) (h - 1) hv (by omega) (by omega) hG1
        rw [← hR0] at hlow
        ((with_reducible apply Tri.setb 28 (true)); (case h => rfl); (case hi => rfl))
        (apply Tri.opYes; rfl; rfl; rfl; apply o_move; rfl; rfl; apply Tri.opYes; rfl; rfl; rfl)
        (apply o_ixOwn (j := 0); (case hx => rfl); (case hy => rfl); (case p => (with_reducible repeat constructor)); (case hj => rfl); (case hlt => exact (by decide : 0 < 1)); (case hn => rfl))
        (apply Tri.opYes; rfl; rfl; rfl)
        (apply o_loadAggOwn; (case hx => rfl); (case p => (with_reducible repeat constructor)); (case hv => exact NDL_at _ 0 _ rfl); (case hl => rfl); (case hn => rfl))
        (apply Tri.opYes; rfl; rfl; rfl)
        (apply o_callV (hs := hsz); (case hargs => (repeat first | exact evs.nil | (apply evs.cons; case a => rfl))); (case hpre => exact fun w' hw' => ⟨rdw_many (by (with_reducible repeat constructor)) hmem.1 w' hw', rdw_many (by (with_reducible repeat constructor)) hmem.2.1 w' hw', rdw_many (by (with_reducible repeat constructor)) hmem.2.2 w' hw'⟩); (case hn => rfl))
        (apply Tri.opYes; rfl; rfl; rfl; apply o_eql; rfl; rfl; rfl; apply Tri.op; rfl; apply o_pickT; (iterate 4 rfl); apply Tri.op; rfl; apply o_assign; rfl; rfl; refine Tri.nil (Tri.thenN ?_))
        ((with_reducible apply Tri.setb 22 (true)); (case h => rfl); (case hi => (rw [decide_eq_true]; omega)))
        (apply Tri.condT; rfl; rfl; refine Tri.seq (Tri.region ?_); apply Tri.op; rfl; apply o_move; rfl; rfl; apply Tri.op; rfl; apply o_move; rfl; rfl; apply Tri.op; rfl)
        (apply o_ixOwn (j := 0); (case hx => rfl); (case hy => rfl); (case p => (with_reducible repeat constructor)); (case hj => rfl); (case hlt => exact (by decide : 0 < 1)); (case hn => rfl))
        (apply Tri.op; rfl; apply o_fieldE; rfl; rfl; apply Tri.op; rfl)
        (apply o_loadOwn (j := 0 * 4 + 3) (v := .slice C1 k1 c1); (case hx => rfl); (case p => (with_reducible repeat constructor)); (case hv => rfl); (case hn => rfl))
        (apply Tri.op; rfl)
        (apply o_ixW (j := 0); (case hx => rfl); (case hy => rfl); (case hr => exact rdw_many (by (with_reducible repeat constructor)) hmem.2.2); (case hj => rfl); (case hlt => exact hlt0); (case hl => exact hltl); (case hn => rfl))
        (apply Tri.op; rfl)
        (apply o_loadW; (case hx => rfl); (case hr => exact rdw_many (by (with_reducible repeat constructor)) hmem.2.2); (case hv => exact hN0); (case hn => rfl))
        (apply Tri.op; rfl; apply o_move; rfl; rfl; apply Tri.op; rfl; apply o_sub64; rfl; rfl; rfl; (omega); apply Tri.op; rfl)
        ((with_reducible apply Tri.seti 43 (((h - 1 : Nat) : Int))); (case h => rfl); (case hi => omega))
        skip
        (apply o_callS (hs := hlow); (case hargs => (repeat first | exact evs.nil | (apply evs.cons; case a => rfl))); (case p => (repeat first | with_reducible constructor | constructor)); (case hn => rfl))
        rintro r1 H1 ⟨rfl, rfl⟩
        (try dsimp only [List.cons_append, List.nil_append])
        (apply Tri.op; rfl; apply o_extract; rfl; rfl; rfl; apply Tri.op; rfl; apply o_extract; rfl; rfl; rfl; apply Tri.op; rfl)
        (apply o_storeAll (ys := [.int .i64 R0.2.1.1, .int .i64 (R0.2.1.2 : Int)]); (case hx => rfl); (case hy => rfl); (case p => (with_reducible repeat constructor)); (case hl => rfl); (case hc => rfl); (case h1 => exact two_int _ _))
        (apply Tri.op; rfl; apply o_assign; rfl; rfl; refine Tri.nil (Tri.thenN (Tri.ret (Tri.blockR (Tri.thenR ?_)))))
        (apply Tri.fin; (case hr => rfl); (case h => exact ResL.cons ((Res1.agg rfl (by (with_reducible repeat constructor)) (by rw [List.drop_zero]; exact List.take_of_length_le (Nat.le_of_eq (rfl : [Value.int .i64 R0.2.1.1, Value.int .i64 (R0.2.1.2 : Int)].length = 2))) (rfl : [Value.int .i64 R0.2.1.1, Value.int .i64 (R0.2.1.2 : Int)].length = 2))) (ResL.cons (Res1.tmp rfl) (ResL.nil))); (apply fin_R (Hn := [blk pv 194 (viewL d R0.1), DSK d R0.1.S])); (case p => exact (by (repeat first | with_reducible constructor | constructor))); exact ⟨rfl, rfl⟩)
      · rw [if_neg hs1] at hR0
        cases leaf with
        | true =>
          ((with_reducible apply Tri.setb 28 (false)); (case h => rfl); (case hi => rfl))
          ((iterate 5 apply Tri.opNo (c := false); (iterate 6 rfl)); apply Tri.op; rfl; apply o_pickF; (iterate 4 rfl); apply Tri.op; rfl; apply o_assign; rfl; rfl; refine Tri.nil (Tri.thenN ?_); apply Tri.condF; rfl; rfl; refine Tri.skip (Tri.blockN (Tri.thenN (Tri.seq (Tri.region ?_)))); apply Tri.op; rfl; apply o_move; rfl; rfl; apply Tri.op; rfl; apply o_move; rfl; rfl; apply Tri.op; rfl)
          (apply o_ixOwn (j := 0); (case hx => rfl); (case hy => rfl); (case p => (with_reducible repeat constructor)); (case hj => rfl); (case hlt => exact (by decide : 0 < 1)); (case hn => rfl))
          (apply Tri.op; rfl)
          (apply o_loadAggOwn; (case hx => rfl); (case p => (with_reducible repeat constructor)); (case hv => exact NDL_at _ 0 _ rfl); (case hl => rfl); (case hn => rfl))
          (apply Tri.op; rfl)
          (apply o_callS (hs := hwr); (case hargs => (repeat first | exact evs.nil | (apply evs.cons; case a => rfl))); (case p => (repeat first | with_reducible constructor | constructor)); (case hn => rfl))
          rintro r1 H1 ⟨rfl, rfl⟩
          (try dsimp only [List.cons_append, List.nil_append])
          (apply Tri.op; rfl; apply o_move; rfl; rfl; apply Tri.op; rfl; apply o_extract; rfl; rfl; rfl; apply Tri.op; rfl; apply o_extract; rfl; rfl; rfl; apply Tri.op; rfl; apply o_assign; rfl; rfl; apply Tri.op; rfl; apply o_assign; rfl; rfl; refine Tri.nil (Tri.thenN (Tri.seq (Tri.region ?_))); apply Tri.op; rfl; apply o_move; rfl; rfl; apply Tri.op; rfl; apply o_move; rfl; rfl; apply Tri.op; rfl)
          (apply o_build (ys := [.int .i64 (wrN v true y).2.1, .int .i64 (h : Int)]); (case hp => (repeat first | exact pev.nil | (apply pev.cons; case a => rfl))); (case hf => rfl); (case hn => rfl))
          (apply Tri.op; rfl; apply o_move; rfl; rfl; apply Tri.op; rfl)
          (apply o_storeAll (ys := [.int .i64 (wrN v true y).2.1, .int .i64 (h : Int)]); (case hx => rfl); (case hy => rfl); (case p => (with_reducible repeat constructor)); (case hl => rfl); (case hc => rfl); (case h1 => exact two_int _ _))
          (apply Tri.op; rfl; apply o_assign; rfl; rfl; refine Tri.nil (Tri.thenN (Tri.ret ?_)))
          rw [hR0]
          (apply Tri.fin; (case hr => rfl); (case h => exact ResL.cons ((Res1.agg rfl (by (with_reducible repeat constructor)) (by rw [List.drop_zero]; exact List.take_of_length_le (Nat.le_of_eq (rfl : [Value.int .i64 (wrN v true y).2.1, Value.int .i64 (h : Int)].length = 2))) (rfl : [Value.int .i64 (wrN v true y).2.1, Value.int .i64 (h : Int)].length = 2))) (ResL.cons (Res1.tmp rfl) (ResL.nil))); (apply fin_R (Hn := [blk pv 194 (viewL d (wrN v true y).1), DSK d (wrN v true y).1.S])); (case p => exact (by (repeat first | with_reducible constructor | constructor))); exact ⟨rfl, rfl⟩)
        | false =>
          ((with_reducible apply Tri.setb 28 (true)); (case h => rfl); (case hi => rfl))
          (apply Tri.opYes; rfl; rfl; rfl; apply o_move; rfl; rfl; apply Tri.opYes; rfl; rfl; rfl)
          (apply o_ixOwn (j := 0); (case hx => rfl); (case hy => rfl); (case p => (with_reducible repeat constructor)); (case hj => rfl); (case hlt => exact (by decide : 0 < 1)); (case hn => rfl))
          (apply Tri.opYes; rfl; rfl; rfl)
          (apply o_loadAggOwn; (case hx => rfl); (case p => (with_reducible repeat constructor)); (case hv => exact NDL_at _ 0 _ rfl); (case hl => rfl); (case hn => rfl))
          (apply Tri.opYes; rfl; rfl; rfl)
          (apply o_callV (hs := hsz); (case hargs => (repeat first | exact evs.nil | (apply evs.cons; case a => rfl))); (case hpre => exact fun w' hw' => ⟨rdw_many (by (with_reducible repeat constructor)) hmem.1 w' hw', rdw_many (by (with_reducible repeat constructor)) hmem.2.1 w' hw', rdw_many (by (with_reducible repeat constructor)) hmem.2.2 w' hw'⟩); (case hn => rfl))
          (apply Tri.opYes; rfl; rfl; rfl; apply o_eql; rfl; rfl; rfl; apply Tri.op; rfl; apply o_pickT; (iterate 4 rfl); apply Tri.op; rfl; apply o_assign; rfl; rfl; refine Tri.nil (Tri.thenN ?_))
          ((with_reducible apply Tri.setb 22 (false)); (case h => rfl); (case hi => exact decide_eq_false (fun c => hs1 ⟨rfl, by omega⟩)))
          (apply Tri.condF; rfl; rfl; refine Tri.skip (Tri.blockN (Tri.thenN (Tri.seq (Tri.region ?_)))); apply Tri.op; rfl; apply o_move; rfl; rfl; apply Tri.op; rfl; apply o_move; rfl; rfl; apply Tri.op; rfl)
          (apply o_ixOwn (j := 0); (case hx => rfl); (case hy => rfl); (case p => (with_reducible repeat constructor)); (case hj => rfl); (case hlt => exact (by decide : 0 < 1)); (case hn => rfl))
          (apply Tri.op; rfl)
          (apply o_loadAggOwn; (case hx => rfl); (case p => (with_reducible repeat constructor)); (case hv => exact NDL_at _ 0 _ rfl); (case hl => rfl); (case hn => rfl))
          (apply Tri.op; rfl)
          (apply o_callS (hs := hwr); (case hargs => (repeat first | exact evs.nil | (apply evs.cons; case a => rfl))); (case p => (repeat first | with_reducible constructor | constructor)); (case hn => rfl))
          rintro r1 H1 ⟨rfl, rfl⟩
          (try dsimp only [List.cons_append, List.nil_append])
          (apply Tri.op; rfl; apply o_move; rfl; rfl; apply Tri.op; rfl; apply o_extract; rfl; rfl; rfl; apply Tri.op; rfl; apply o_extract; rfl; rfl; rfl; apply Tri.op; rfl; apply o_assign; rfl; rfl; apply Tri.op; rfl; apply o_assign; rfl; rfl; refine Tri.nil (Tri.thenN (Tri.seq (Tri.region ?_))); apply Tri.op; rfl; apply o_move; rfl; rfl; apply Tri.op; rfl; apply o_move; rfl; rfl; apply Tri.op; rfl)
          (apply o_build (ys := [.int .i64 (wrN v false y).2.1, .int .i64 (h : Int)]); (case hp => (repeat first | exact pev.nil | (apply pev.cons; case a => rfl))); (case hf => rfl); (case hn => rfl))
          (apply Tri.op; rfl; apply o_move; rfl; rfl; apply Tri.op; rfl)
          (apply o_storeAll (ys := [.int .i64 (wrN v false y).2.1, .int .i64 (h : Int)]); (case hx => rfl); (case hy => rfl); (case p => (with_reducible repeat constructor)); (case hl => rfl); (case hc => rfl); (case h1 => exact two_int _ _))
          (apply Tri.op; rfl; apply o_assign; rfl; rfl; refine Tri.nil (Tri.thenN (Tri.ret ?_)))
          rw [hR0]
          (apply Tri.fin; (case hr => rfl); (case h => exact ResL.cons ((Res1.agg rfl (by (with_reducible repeat constructor)) (by rw [List.drop_zero]; exact List.take_of_length_le (Nat.le_of_eq (rfl : [Value.int .i64 (wrN v false y).2.1, Value.int .i64 (h : Int)].length = 2))) (rfl : [Value.int .i64 (wrN v false y).2.1, Value.int .i64 (h : Int)].length = 2))) (ResL.cons (Res1.tmp rfl) (ResL.nil))); (apply fin_R (Hn := [blk pv 194 (viewL d (wrN v false y).1), DSK d (wrN v false y).1.S])); (case p => exact (by (repeat first | with_reducible constructor | constructor))); exact ⟨rfl, rfl⟩)
end Go.Proofs.Ytckdlfbbkemklaa
end
section
/- tree: nodes of one height, and as many above them as must be: the walk. -/
namespace Go.Proofs.Ytckdlfbbkemklaa
open Go Go.RowKit Go.Gv
set_option linter.unusedVariables false
set_option linter.unusedSimpArgs false

theorem rd_noneU (w : World) : RdW w (.slice none 0 0) 0 [] := ⟨none, 0, rfl, ⟨by simp, by decide⟩, fun j u h => by simp at h⟩
theorem rk_len {a b g n : Nat} (h1 : a + (g + 1 + 1) * 4000 ≤ 800000) (h2 : b ≤ a + 4 * n) (h3 : n ≤ 1000) : b + (g + 1) * 4000 ≤ 800000 := by rw [Nat.add_mul (g + 1) 1 4000] at h1; omega
/-- a level that is to be written -/
structure RK (R0 : VS × (Int × Nat) × Nat) where
  f : Nat
  leaf : Bool
  v : VS
  xs : List ND3
  h : Nat
  AR : Option Addr
  cr : Nat
  VV : List (Value × Value × Value)
  hR0 : roN f leaf v xs h = R0
  hG : roG f leaf v xs h
  hv : v.ok
  hl : v.S.W.length + (f + 1) * 4000 ≤ 800000
  hn : xs.length ≤ 1000
  hh : h + f ≤ 1000
  hxl : VV.length = xs.length
  hW : shp VV
  hR : ∀ x ∈ xs, ∀ e ∈ x.E, entR e
set_option maxHeartbeats 8000000 in
theorem view_root (pv d f : Nat) (v : VS) (leaf : Bool) (AR : Option Addr) (cr : Nat) (VV : List (Value × Value × Value)) (xs : List ND3) (h : Nat) (hG : roG f leaf v xs h) (hv : v.ok) (hl : v.S.W.length + (f + 1) * 4000 ≤ 800000) (hn : xs.length ≤ 1000) (hh : h + f ≤ 1000) (hxl : VV.length = xs.length) (hW : shp VV) (hR : ∀ x ∈ xs, ∀ e ∈ x.E, entR e) :
    Gv.Spec Try.prog 77 #[.pointer (some ⟨pv, 0, none⟩), .slice AR VV.length cr, .int .i64 (h : Int)] [blk pv 194 (viewL d v), DSK d v.S, own 33 4 (.slice AR VV.length cr) VV.length (NDL leaf VV), manyRd (RDS VV xs)]
    (fun r H' => r = .tuple #[.agg #[.int .i64 (roN f leaf v xs h).2.1.1, .int .i64 ((roN f leaf v xs h).2.1.2 : Int)], .int .i64 ((roN f leaf v xs h).2.2 : Int)] ∧ H' = [blk pv 194 (viewL d (roN f leaf v xs h).1), DSK d (roN f leaf v xs h).1.S]) := by
  refine Gv.Spec.of (fun w h0 hw => ?_)
  refine Calls.enter Try.func77 rfl rfl rfl hw ?_
  simp only [argSlots]
  (try dsimp only [List.cons_append, List.nil_append])
  obtain ⟨R0, hR0⟩ : ∃ R, R = roN f leaf v xs h := ⟨_, rfl⟩
  rw [← hR0]
  (refine Tri.seq (Tri.region ?_); apply Tri.op; rfl)
  (apply o_alloc; (case hn => rfl); intro b6)
  (apply Tri.op; rfl; apply o_assign; rfl; rfl; refine Tri.nil (Tri.thenN (Tri.seq (Tri.block ?_))))
  (apply Tri.loop (α := RK R0) (m := fun x => x.f) (Lx := fun x => [(0, .pointer (some ⟨pv, 0, none⟩)), (1, .slice x.AR x.VV.length x.cr), (2, .int .i64 (x.h : Int)), (6, .pointer (some ⟨b6, 0, none⟩))]) (Hx := fun x => [blk b6 48 [.int .i64 0, .int .i64 0], blk pv 194 (viewL d x.v), DSK d x.v.S, own 33 4 (.slice x.AR x.VV.length x.cr) x.VV.length (NDL x.leaf x.VV), manyRd (RDS x.VV x.xs), Ex h0]) (x0 := ⟨f, leaf, v, xs, h, AR, cr, VV, hR0.symm, hG, hv, hl, hn, hh, hxl, hW, hR⟩); (case hL => ((try dsimp only); (repeat (first | exact trivial | refine And.intro (by rfl) ?_)))); (case hH => ((try dsimp only); apply St.all; (repeat first | with_reducible constructor | constructor)))); (rintro ⟨f, leaf, v, xs, h, AR, cr, VV, hR0', hG, hv, hl, hn, hh, hxl, hW, hR⟩ mx hmx; (try dsimp only at hmx ⊢))
  (refine Tri.seq (Tri.seq (Tri.region ?_)); apply Tri.op; rfl; apply o_move; rfl; rfl; apply Tri.op; rfl; apply o_len; rfl; rfl; apply Tri.op; rfl; apply o_gtr; rfl; rfl; rfl; refine Tri.nil (Tri.thenN ?_))
  (apply Tri.condD; (case hc => rfl); (all_goals intro hc))
  · have hx2 : 1 < xs.length := by omega
    obtain ⟨g, rfl⟩ : ∃ g, f = g + 1 := by
      cases f with
      | zero => exact absurd hG.1 (by omega)
      | succ g => exact ⟨g, rfl⟩
    rw [roN, if_pos hx2] at hR0'
    have hG1 := hG.1 hx2
    have huc := unN_cnt (leaf := leaf) (v := v) (xs := xs)
    have hok := unGo_ok leaf xs hv
    have hln := unGo_len leaf xs v
    have hu1 : (unN leaf v xs).1 = (unGo leaf v xs).1 := rfl
    rw [← hu1] at hok hln
    have hun := view_under pv d v leaf AR cr VV xs hv hxl (by omega) (by omega) hW hR
    obtain ⟨U, hU⟩ : ∃ U, U = unN leaf v xs := ⟨_, rfl⟩
    rw [← hU] at hR0' huc hok hln hun hG1
    (refine Tri.skip (Tri.thenN (Tri.block (Tri.seq (Tri.region ?_)))); apply Tri.op; rfl; apply o_move; rfl; rfl; apply Tri.op; rfl; apply o_move; rfl; rfl; apply Tri.op; rfl)
    (apply o_callS (hs := hun); (case hargs => (repeat first | exact evs.nil | (apply evs.cons; case a => rfl))); (case p => (repeat first | with_reducible constructor | constructor)); (case hn => rfl))
    rintro r1 H1 ⟨A, a, B, b, rfl, rfl⟩
    (try dsimp only [List.cons_append, List.nil_append])
    (apply Tri.op; rfl; apply o_move; rfl; rfl; apply Tri.op; rfl; apply o_extract; rfl; rfl; rfl; apply Tri.op; rfl; apply o_extract; rfl; rfl; rfl; apply Tri.op; rfl)
    (apply o_alloc; (case hn => rfl); intro b8)
    (apply Tri.op; rfl)
    (apply o_storeAll (ys := ndLL false (.slice none 0 0) (.slice A U.2.1.K.length a) (.slice B U.2.1.D.length b)); (case hx => rfl); (case hy => rfl); (case p => (with_reducible repeat constructor)); (case hl => rfl); (case hc => rfl); (case h1 => exact ndLL_one false none A B 0 0 _ a _ b))
    (apply Tri.op; rfl; apply o_assign; rfl; rfl; refine Tri.nil (Tri.thenN (Tri.seq (Tri.seq (Tri.region ?_)))); apply Tri.op; rfl; apply o_move; rfl; rfl; apply Tri.op; rfl; apply o_neq; rfl; rfl; rfl; refine Tri.nil (Tri.thenN ?_))
    by_cases hz : U.2.2 = 0
    · ((with_reducible apply Tri.setb 20 (false)); (case h => rfl); (case hi => (rw [hz]; rfl)))
      rw [if_pos hz] at hR0'
      obtain ⟨hUE, hUK, hUD⟩ := huc hz
      have hG2 := hG1 hz
      have hXo : okN false U.2.1 := ⟨hUE, by rw [hUK, hUD]⟩
      have hXs : szN false U.2.1 = xs.length := hUD
      have hspE := splitN_E hXo
      have hspL := splN_len (leaf := false) (szN false U.2.1 + 1) U.2.1
      obtain ⟨X, hX⟩ : ∃ X, X = U.2.1 := ⟨_, rfl⟩
      rw [← hX] at hR0' hG2 hXo hXs hspE hspL ⊢
      have hsq : splN false (szN false X + 1) X = splitN false X := rfl
      rw [hsq] at hspL
      have hE0 : X.E = [] := hXo.1
      have hsp := node_Split false (szN false X) X (.slice none 0 0) (.slice A X.K.length a) (.slice B X.D.length b) hXo (Nat.le_refl _) (by omega)
      (apply Tri.condF; rfl; rfl; refine Tri.skip (Tri.thenN (Tri.seq (Tri.region ?_))); apply Tri.op; rfl)
      (apply o_loadAll (cs := ndLL false (.slice none 0 0) (.slice A X.K.length a) (.slice B X.D.length b)); (case hx => rfl); (case p => exact (by (with_reducible repeat constructor))); (case hl => rfl); (case hn => rfl))
      (apply Tri.op; rfl)
      (apply o_callR (hs := hsp); (case hargs => (repeat first | exact evs.nil | (apply evs.cons; case a => rfl))); (case hpre => exact fun w' hw' => ⟨by rw [hE0]; exact rd_noneU w', rdw_own (v := .slice A X.K.length a) (by (with_reducible repeat constructor)) w' hw', rdw_own (v := .slice B X.D.length b) (by (with_reducible repeat constructor)) w' hw'⟩); (case hn => rfl))
      rintro r2 H2 ⟨VS, hVS, hW2, rfl⟩
      (try dsimp only [List.cons_append, List.nil_append])
      (refine Tri.shape (e := 33) (size := 4) (v := r2) (by (with_reducible repeat constructor)) ?_; rintro ⟨AR2, cr2, rfl⟩)
      rw [hsq] at hVS
      rw [hsq]
      (apply Tri.op; rfl; apply o_assign; rfl; rfl; refine Tri.nil (Tri.thenN (Tri.region ?_)); apply Tri.op; rfl; apply o_move; rfl; rfl; apply Tri.op; rfl; apply o_add64; rfl; rfl; rfl; (omega); apply Tri.op; rfl; apply o_assign; rfl; rfl; refine Tri.nil (Tri.blockN (Tri.thenN ?_)))
      ((with_reducible apply Tri.seti 2 (((h + 1 : Nat) : Int))); (case h => rfl); (case hi => omega))
      have hW3 : shp VS := hW2
      have g1 := rk_len hl hln hn
      have g2 : (splitN false X).length ≤ 1000 := by omega
      have g3 : h + 1 + g ≤ 1000 := by omega
      (apply Tri.again (y := ⟨g, false, U.1, splitN false X, h + 1, AR2, cr2, VS, hR0', hG2, hok, g1, g2, g3, hVS, hW3, hspE⟩); (case p => ((try dsimp only); (repeat (first | exact Pulls.nil | (apply Pulls.cons; (case a => (first | ((repeat (first | with_reducible exact Gv.Pull.head | with_reducible apply Gv.Pull.tail)); done) | (repeat (first | exact Gv.Pull.head | apply Gv.Pull.tail))))))))); (case hm => ((try dsimp only); omega)); (try dsimp only))
      (repeat (first | exact trivial | refine And.intro (by rfl) ?_))
    · ((with_reducible apply Tri.setb 20 (true)); (case h => rfl); (case hi => (rw [decide_eq_true]; omega)))
      rw [if_neg hz] at hR0'
      (apply Tri.condT; rfl; rfl; refine Tri.seq (Tri.region ?_); apply Tri.op; rfl; apply o_build0; rfl; apply Tri.op; rfl; apply o_move; rfl; rfl; apply Tri.op; rfl)
      (apply o_storeAll (ys := [.int .i64 0, .int .i64 0]); (case hx => rfl); (case hy => rfl); (case p => (with_reducible repeat constructor)); (case hl => rfl); (case hc => rfl); (case h1 => exact two_int _ _))
      (apply Tri.op; rfl; apply o_assign; rfl; rfl; refine Tri.nil (Tri.thenN (Tri.ret (Tri.thenR (Tri.blockR (Tri.thenR (Tri.blockR (Tri.thenR ?_))))))))
      rw [← hR0']
      (apply Tri.fin; (case hr => rfl); (case h => exact ResL.cons ((Res1.agg rfl (by (with_reducible repeat constructor)) (by rw [List.drop_zero]; exact List.take_of_length_le (Nat.le_of_eq (rfl : [Value.int .i64 0, Value.int .i64 0].length = 2))) (rfl : [Value.int .i64 0, Value.int .i64 0].length = 2))) (ResL.cons (Res1.tmp rfl) (ResL.nil))); (apply fin_R (Hn := [blk pv 194 (viewL d U.1), DSK d U.1.S])); (case p => exact (by (repeat first | with_reducible constructor | constructor))); exact ⟨rfl, rfl⟩)
  · have hx1 : xs.length ≤ 1 := by omega
    rw [roN_fin hx1] at hR0'
    ((with_reducible refine Tri.exit (Tri.thenE (Tri.thenE (Tri.blockE (Tri.thenN (Tri.seq (Tri.seq (Tri.region ?_)))))))); apply Tri.op; rfl; apply o_move; rfl; rfl; apply Tri.op; rfl; apply o_gtr; rfl; rfl; rfl; refine Tri.nil (Tri.thenN ?_))
    by_cases hb : 5 < h
    · rw [if_pos hb] at hR0'
      ((with_reducible apply Tri.setb 28 (true)); (case h => rfl); (case hi => (rw [decide_eq_true]; omega)))
      (apply Tri.condT; rfl; rfl; refine Tri.seq (Tri.region ?_); apply Tri.op; rfl; apply o_build0; rfl; apply Tri.op; rfl)
      (apply o_storeAll (ys := [.int .i64 0, .int .i64 0]); (case hx => rfl); (case hy => rfl); (case p => (with_reducible repeat constructor)); (case hl => rfl); (case hc => rfl); (case h1 => exact two_int _ _))
      (apply Tri.op; rfl; apply o_assign; rfl; rfl; refine Tri.nil (Tri.thenN (Tri.ret (Tri.thenR ?_))))
      rw [← hR0']
      (apply Tri.fin; (case hr => rfl); (case h => exact ResL.cons ((Res1.agg rfl (by (with_reducible repeat constructor)) (by rw [List.drop_zero]; exact List.take_of_length_le (Nat.le_of_eq (rfl : [Value.int .i64 0, Value.int .i64 0].length = 2))) (rfl : [Value.int .i64 0, Value.int .i64 0].length = 2))) (ResL.cons (Res1.tmp rfl) (ResL.nil))); (apply fin_R (Hn := [blk pv 194 (viewL d v), DSK d v.S])); (case p => exact (by (repeat first | with_reducible constructor | constructor))); exact ⟨rfl, rfl⟩)
    · rw [if_neg hb] at hR0'
      have hsg := view_single pv d v leaf AR cr VV xs h hv (by omega) hxl hW hR (by omega) (roG_fin hx1 hG (by omega))
      rw [hR0'] at hsg
      ((with_reducible apply Tri.setb 28 (false)); (case h => rfl); (case hi => exact decide_eq_false (by omega)))
      (apply Tri.condF; rfl; rfl; refine Tri.skip (Tri.thenN (Tri.seq (Tri.region ?_))); apply Tri.op; rfl; apply o_move; rfl; rfl; apply Tri.op; rfl; apply o_move; rfl; rfl; apply Tri.op; rfl; apply o_move; rfl; rfl; apply Tri.op; rfl)
      (apply o_callS (hs := hsg); (case hargs => (repeat first | exact evs.nil | (apply evs.cons; case a => rfl))); (case p => (repeat first | with_reducible constructor | constructor)); (case hn => rfl))
      rintro r1 H1 ⟨rfl, rfl⟩
      (try dsimp only [List.cons_append, List.nil_append])
      (apply Tri.op; rfl; apply o_extract; rfl; rfl; rfl; apply Tri.op; rfl; apply o_extract; rfl; rfl; rfl; apply Tri.op; rfl)
      (apply o_storeAll (ys := [.int .i64 R0.2.1.1, .int .i64 (R0.2.1.2 : Int)]); (case hx => rfl); (case hy => rfl); (case p => (with_reducible repeat constructor)); (case hl => rfl); (case hc => rfl); (case h1 => exact two_int _ _))
      (apply Tri.op; rfl; apply o_assign; rfl; rfl; refine Tri.nil (Tri.thenN (Tri.ret ?_)))
      (apply Tri.fin; (case hr => rfl); (case h => exact ResL.cons ((Res1.agg rfl (by (with_reducible repeat constructor)) (by rw [List.drop_zero]; exact List.take_of_length_le (Nat.le_of_eq (rfl : [Value.int .i64 R0.2.1.1, Value.int .i64 (R0.2.1.2 : Int)].length = 2))) (rfl : [Value.int .i64 R0.2.1.1, Value.int .i64 (R0.2.1.2 : Int)].length = 2))) (ResL.cons (Res1.tmp rfl) (ResL.nil))); (apply fin_R (Hn := [blk pv 194 (viewL d R0.1), DSK d R0.1.S])); (case p => exact (by (repeat first | with_reducible constructor | constructor))); exact ⟨rfl, rfl⟩)
end Go.Proofs.Ytckdlfbbkemklaa
end
section
/- slices: Replace and Insert at the end (printed by mkslends.py). -/
namespace Go.Proofs.Ytckdlfbbkemklaa
open Go Go.RowKit Go.Gv
set_option linter.unusedVariables false
set_option linter.unusedSimpArgs false

set_option maxRecDepth 4000 in
set_option maxHeartbeats 8000000 in
theorem slices_ReplEndint (A : Option Addr) (n c i : Nat) (u : Value) (m : Nat) (xs ys : List Value) (hi : i < n) (him : n ≤ i + m) (hb : n + m ≤ 100000) (hc : 0 < m) (h1 : ∀ y ∈ ys, y.oneCell' = true) (hl : ys.length = m * 1) (hxl : xs.length = n * 1) :
    Gv.Spec Try.prog 136 #[.slice A n c, .int .i64 (i : Int), .int .i64 (n : Int), u] [own 3 1 (.slice A n c) n xs, own 3 1 u m ys]
    (fun r H' => ∃ A' c', r = .slice A' (i + m) c' ∧ H' = [own 3 1 (.slice A' (i + m) c') (i + m) (xs.take (i * 1) ++ ys), own 3 1 u m ys]) := by
  refine Gv.Spec.of (fun w h0 hw => ?_)
  refine Calls.enter Try.func136 rfl rfl rfl hw ?_
  simp only [argSlots]
  (try dsimp only [List.cons_append, List.nil_append])
  (refine Tri.seq (Tri.region ?_); apply Tri.op; rfl; apply o_assign; rfl; rfl; refine Tri.nil (Tri.thenN (Tri.seq (Tri.region ?_))); apply Tri.op; rfl; apply o_move; rfl; rfl; apply Tri.op; rfl; apply o_move; rfl; rfl; apply Tri.op; rfl; apply o_move; rfl; rfl; apply Tri.op; rfl)
  (apply o_slice (lo := i) (hi := n) (m := n) (xs := xs); (case hx => rfl); (case hr => exact rdw_own (v := .slice A n c) (by (with_reducible repeat constructor))); (case hol => first | exact fun _ _ => rfl | exact fun a ha => congrArg some (ha.eval rfl)); (case hoh => first | exact fun _ _ => rfl | exact fun a ha => congrArg some (ha.eval rfl)); (case hlo => first | exact .inr ⟨rfl, rfl⟩ | exact .inl ⟨_, rfl⟩ | exact .inl ⟨_, (by congr 2; omega)⟩); (case hhi => first | exact .inr ⟨rfl, rfl⟩ | exact .inl ⟨_, rfl⟩ | exact .inl ⟨_, (by congr 2; omega)⟩); (case hlh => omega); (case hhm => omega); (case hn => rfl))
  (refine Tri.nil (Tri.thenN (Tri.seq (Tri.seq (Tri.region ?_)))); apply Tri.op; rfl; apply o_move; rfl; rfl; apply Tri.op; rfl; apply o_move; rfl; rfl; apply Tri.op; rfl; apply o_eql; rfl; rfl; rfl; refine Tri.nil (Tri.thenN ?_))
  ((with_reducible apply Tri.setb 21 (false)); (case h => rfl); (case hi => exact decide_eq_false (by omega)))
  (apply Tri.condF; rfl; rfl; refine Tri.skip (Tri.thenN (Tri.seq (Tri.seq (Tri.region ?_)))); apply Tri.op; rfl; apply o_move; rfl; rfl; apply Tri.op; rfl; apply o_move; rfl; rfl; apply Tri.op; rfl; apply o_len; rfl; rfl; apply Tri.op; rfl; apply o_eql; rfl; rfl; rfl; refine Tri.nil (Tri.thenN ?_))
  ((with_reducible apply Tri.setb 29 (true)); (case h => rfl); (case hi => exact decide_eq_true rfl))
  (apply Tri.condT; rfl; rfl; refine Tri.seq (Tri.region ?_); apply Tri.op; rfl; apply o_move; rfl; rfl; apply Tri.op; rfl; apply o_move; rfl; rfl; apply Tri.op; rfl)
  (apply o_slice (lo := 0) (hi := i) (m := n) (xs := xs); (case hx => rfl); (case hr => exact rdw_own (v := .slice A n c) (by (with_reducible repeat constructor))); (case hol => first | exact fun _ _ => rfl | exact fun a ha => congrArg some (ha.eval rfl)); (case hoh => first | exact fun _ _ => rfl | exact fun a ha => congrArg some (ha.eval rfl)); (case hlo => first | exact .inr ⟨rfl, rfl⟩ | exact .inl ⟨_, rfl⟩ | exact .inl ⟨_, (by congr 2; omega)⟩); (case hhi => first | exact .inr ⟨rfl, rfl⟩ | exact .inl ⟨_, rfl⟩ | exact .inl ⟨_, (by congr 2; omega)⟩); (case hlh => omega); (case hhm => omega); (case hn => rfl))
  (apply Tri.op; rfl; apply o_move; rfl; rfl; apply Tri.op; rfl)
  refine Tri.ownCut (v := .slice A n c) (e := 3) (size := 1) i (by (with_reducible repeat constructor)) (Nat.le_of_lt hi) ?_
  (apply o_append (m2 := m) (news := ys); (case hx => rfl); (case hy => rfl); (case p => (with_reducible repeat constructor)); (case hr => exact rdw_own (v := u) (by (with_reducible repeat constructor))); (case hl => exact hl); (case h1 => exact h1); (case hb => omega); (case hn => rfl))
  intro vr
  (refine Tri.shape (e := 3) (size := 1) (v := vr) (by (with_reducible repeat constructor)) ?_; rintro ⟨A2, c2, rfl⟩)
  (apply Tri.op; rfl; apply o_assign; rfl; rfl; refine Tri.nil (Tri.thenN (Tri.seq (Tri.seq (Tri.region ?_)))); apply Tri.op; rfl; apply o_move; rfl; rfl; apply Tri.op; rfl; apply o_len; rfl; rfl; apply Tri.op; rfl; apply o_move; rfl; rfl; apply Tri.op; rfl; apply o_len; rfl; rfl; apply Tri.op; rfl; apply o_lss; rfl; rfl; rfl; refine Tri.nil (Tri.thenN ?_))
  ((with_reducible apply Tri.setb 39 (false)); (case h => rfl); (case hi => exact decide_eq_false (by omega)))
  (apply Tri.condF; rfl; rfl; refine Tri.skip (Tri.thenN (Tri.seq (Tri.region ?_))); apply Tri.op; rfl; apply o_move; rfl; rfl; apply Tri.op; rfl; apply o_assign; rfl; rfl; refine Tri.nil (Tri.thenN (Tri.ret (Tri.thenR ?_))))
  (apply Tri.fin; (case hr => rfl); (case h => exact ResL.cons (Res1.tmp rfl) (ResL.nil)); (apply fin_R (Hn := [own 3 1 (.slice A2 (i + m) c2) (i + m) (xs.take (i * 1) ++ ys), own 3 1 u m ys])); (case p => exact (by (repeat first | with_reducible constructor | constructor))); exact ⟨A2, c2, rfl, rfl⟩)
set_option maxRecDepth 4000 in
set_option maxHeartbeats 8000000 in
theorem slices_ReplEndKey (A : Option Addr) (n c i : Nat) (u : Value) (m : Nat) (xs ys : List Value) (hi : i < n) (him : n ≤ i + m) (hb : n + m ≤ 100000) (hc : 0 < m) (h1 : ∀ y ∈ ys, y.oneCell' = true) (hl : ys.length = m * 2) (hxl : xs.length = n * 2) :
    Gv.Spec Try.prog 135 #[.slice A n c, .int .i64 (i : Int), .int .i64 (n : Int), u] [own 98 2 (.slice A n c) n xs, own 98 2 u m ys]
    (fun r H' => ∃ A' c', r = .slice A' (i + m) c' ∧ H' = [own 98 2 (.slice A' (i + m) c') (i + m) (xs.take (i * 2) ++ ys), own 98 2 u m ys]) := by
  refine Gv.Spec.of (fun w h0 hw => ?_)
  refine Calls.enter Try.func135 rfl rfl rfl hw ?_
  simp only [argSlots]
  (try dsimp only [List.cons_append, List.nil_append])
  (refine Tri.seq (Tri.region ?_); apply Tri.op; rfl; apply o_assign; rfl; rfl; refine Tri.nil (Tri.thenN (Tri.seq (Tri.region ?_))); apply Tri.op; rfl; apply o_move; rfl; rfl; apply Tri.op; rfl; apply o_move; rfl; rfl; apply Tri.op; rfl; apply o_move; rfl; rfl; apply Tri.op; rfl)
  (apply o_slice (lo := i) (hi := n) (m := n) (xs := xs); (case hx => rfl); (case hr => exact rdw_own (v := .slice A n c) (by (with_reducible repeat constructor))); (case hol => first | exact fun _ _ => rfl | exact fun a ha => congrArg some (ha.eval rfl)); (case hoh => first | exact fun _ _ => rfl | exact fun a ha => congrArg some (ha.eval rfl)); (case hlo => first | exact .inr ⟨rfl, rfl⟩ | exact .inl ⟨_, rfl⟩ | exact .inl ⟨_, (by congr 2; omega)⟩); (case hhi => first | exact .inr ⟨rfl, rfl⟩ | exact .inl ⟨_, rfl⟩ | exact .inl ⟨_, (by congr 2; omega)⟩); (case hlh => omega); (case hhm => omega); (case hn => rfl))
  (refine Tri.nil (Tri.thenN (Tri.seq (Tri.seq (Tri.region ?_)))); apply Tri.op; rfl; apply o_move; rfl; rfl; apply Tri.op; rfl; apply o_move; rfl; rfl; apply Tri.op; rfl; apply o_eql; rfl; rfl; rfl; refine Tri.nil (Tri.thenN ?_))
  ((with_reducible apply Tri.setb 21 (false)); (case h => rfl); (case hi => exact decide_eq_false (by omega)))
  (apply Tri.condF; rfl; rfl; refine Tri.skip (Tri.thenN (Tri.seq (Tri.seq (Tri.region ?_)))); apply Tri.op; rfl; apply o_move; rfl; rfl; apply Tri.op; rfl; apply o_move; rfl; rfl; apply Tri.op; rfl; apply o_len; rfl; rfl; apply Tri.op; rfl; apply o_eql; rfl; rfl; rfl; refine Tri.nil (Tri.thenN ?_))
  ((with_reducible apply Tri.setb 29 (true)); (case h => rfl); (case hi => exact decide_eq_true rfl))
  (apply Tri.condT; rfl; rfl; refine Tri.seq (Tri.region ?_); apply Tri.op; rfl; apply o_move; rfl; rfl; apply Tri.op; rfl; apply o_move; rfl; rfl; apply Tri.op; rfl)
  (apply o_slice (lo := 0) (hi := i) (m := n) (xs := xs); (case hx => rfl); (case hr => exact rdw_own (v := .slice A n c) (by (with_reducible repeat constructor))); (case hol => first | exact fun _ _ => rfl | exact fun a ha => congrArg some (ha.eval rfl)); (case hoh => first | exact fun _ _ => rfl | exact fun a ha => congrArg some (ha.eval rfl)); (case hlo => first | exact .inr ⟨rfl, rfl⟩ | exact .inl ⟨_, rfl⟩ | exact .inl ⟨_, (by congr 2; omega)⟩); (case hhi => first | exact .inr ⟨rfl, rfl⟩ | exact .inl ⟨_, rfl⟩ | exact .inl ⟨_, (by congr 2; omega)⟩); (case hlh => omega); (case hhm => omega); (case hn => rfl))
  (apply Tri.op; rfl; apply o_move; rfl; rfl; apply Tri.op; rfl)
  refine Tri.ownCut (v := .slice A n c) (e := 98) (size := 2) i (by (with_reducible repeat constructor)) (Nat.le_of_lt hi) ?_
  (apply o_append (m2 := m) (news := ys); (case hx => rfl); (case hy => rfl); (case p => (with_reducible repeat constructor)); (case hr => exact rdw_own (v := u) (by (with_reducible repeat constructor))); (case hl => exact hl); (case h1 => exact h1); (case hb => omega); (case hn => rfl))
  intro vr
  (refine Tri.shape (e := 98) (size := 2) (v := vr) (by (with_reducible repeat constructor)) ?_; rintro ⟨A2, c2, rfl⟩)
  (apply Tri.op; rfl; apply o_assign; rfl; rfl; refine Tri.nil (Tri.thenN (Tri.seq (Tri.seq (Tri.region ?_)))); apply Tri.op; rfl; apply o_move; rfl; rfl; apply Tri.op; rfl; apply o_len; rfl; rfl; apply Tri.op; rfl; apply o_move; rfl; rfl; apply Tri.op; rfl; apply o_len; rfl; rfl; apply Tri.op; rfl; apply o_lss; rfl; rfl; rfl; refine Tri.nil (Tri.thenN ?_))
  ((with_reducible apply Tri.setb 39 (false)); (case h => rfl); (case hi => exact decide_eq_false (by omega)))
  (apply Tri.condF; rfl; rfl; refine Tri.skip (Tri.thenN (Tri.seq (Tri.region ?_))); apply Tri.op; rfl; apply o_move; rfl; rfl; apply Tri.op; rfl; apply o_assign; rfl; rfl; refine Tri.nil (Tri.thenN (Tri.ret (Tri.thenR ?_))))
  (apply Tri.fin; (case hr => rfl); (case h => exact ResL.cons (Res1.tmp rfl) (ResL.nil)); (apply fin_R (Hn := [own 98 2 (.slice A2 (i + m) c2) (i + m) (xs.take (i * 2) ++ ys), own 98 2 u m ys])); (case p => exact (by (repeat first | with_reducible constructor | constructor))); exact ⟨A2, c2, rfl, rfl⟩)
set_option maxRecDepth 4000 in
set_option maxHeartbeats 8000000 in
theorem slices_InsEndEntry (A : Option Addr) (n c : Nat) (u : Value) (m : Nat) (xs ys : List Value) (hb : n + m ≤ 100000) (hc : 0 < m) (h1 : ∀ y ∈ ys, y.oneCell' = true) (hl : ys.length = m * 8) :
    Gv.Spec Try.prog 115 #[.slice A n c, .int .i64 (n : Int), u] [own 100 8 (.slice A n c) n xs, own 100 8 u m ys]
    (fun r H' => ∃ A' c', r = .slice A' (n + m) c' ∧ H' = [own 100 8 (.slice A' (n + m) c') (n + m) (xs ++ ys), own 100 8 u m ys]) := by
  refine Gv.Spec.of (fun w h0 hw => ?_)
  refine Calls.enter Try.func115 rfl rfl rfl hw ?_
  simp only [argSlots]
  (try dsimp only [List.cons_append, List.nil_append])
  (refine Tri.seq (Tri.region ?_); apply Tri.op; rfl; apply o_assign; rfl; rfl; refine Tri.nil (Tri.thenN (Tri.seq (Tri.region ?_))); apply Tri.op; rfl; apply o_move; rfl; rfl; apply Tri.op; rfl; apply o_move; rfl; rfl; apply Tri.op; rfl)
  (apply o_slice (lo := n) (hi := n) (m := n) (xs := xs); (case hx => rfl); (case hr => exact rdw_own (v := .slice A n c) (by (with_reducible repeat constructor))); (case hol => first | exact fun _ _ => rfl | exact fun a ha => congrArg some (ha.eval rfl)); (case hoh => first | exact fun _ _ => rfl | exact fun a ha => congrArg some (ha.eval rfl)); (case hlo => first | exact .inr ⟨rfl, rfl⟩ | exact .inl ⟨_, rfl⟩ | exact .inl ⟨_, (by congr 2; omega)⟩); (case hhi => first | exact .inr ⟨rfl, rfl⟩ | exact .inl ⟨_, rfl⟩ | exact .inl ⟨_, (by congr 2; omega)⟩); (case hlh => omega); (case hhm => omega); (case hn => rfl))
  (refine Tri.nil (Tri.thenN (Tri.seq (Tri.region ?_))); apply Tri.op; rfl; apply o_move; rfl; rfl; apply Tri.op; rfl; apply o_lenOwn; rfl; (with_reducible repeat constructor); rfl; apply Tri.op; rfl; apply o_assign; rfl; rfl; refine Tri.nil (Tri.thenN (Tri.seq (Tri.seq (Tri.region ?_)))); apply Tri.op; rfl; apply o_move; rfl; rfl; apply Tri.op; rfl; apply o_eql; rfl; rfl; rfl; refine Tri.nil (Tri.thenN ?_))
  ((with_reducible apply Tri.setb 16 (false)); (case h => rfl); (case hi => exact decide_eq_false (by omega)))
  (apply Tri.condF; rfl; rfl; refine Tri.skip (Tri.thenN (Tri.seq (Tri.region ?_))); apply Tri.op; rfl; apply o_move; rfl; rfl; apply Tri.op; rfl; apply o_len; rfl; rfl; apply Tri.op; rfl; apply o_assign; rfl; rfl; refine Tri.nil (Tri.thenN (Tri.seq (Tri.seq (Tri.region ?_)))); apply Tri.op; rfl; apply o_move; rfl; rfl; apply Tri.op; rfl; apply o_move; rfl; rfl; apply Tri.op; rfl; apply o_eql; rfl; rfl; rfl; refine Tri.nil (Tri.thenN ?_))
  ((with_reducible apply Tri.setb 22 (true)); (case h => rfl); (case hi => exact decide_eq_true rfl))
  (apply Tri.condT; rfl; rfl; refine Tri.seq (Tri.region ?_); apply Tri.op; rfl; apply o_move; rfl; rfl; apply Tri.op; rfl; apply o_move; rfl; rfl; apply Tri.op; rfl)
  (apply o_append (m2 := m) (news := ys); (case hx => rfl); (case hy => rfl); (case p => (with_reducible repeat constructor)); (case hr => exact rdw_own (v := u) (by (with_reducible repeat constructor))); (case hl => exact hl); (case h1 => exact h1); (case hb => omega); (case hn => rfl))
  intro vr
  (refine Tri.shape (e := 100) (size := 8) (v := vr) (by (with_reducible repeat constructor)) ?_; rintro ⟨A2, c2, rfl⟩)
  (apply Tri.op; rfl; apply o_assign; rfl; rfl; refine Tri.nil (Tri.thenN (Tri.ret (Tri.thenR ?_))))
  (apply Tri.fin; (case hr => rfl); (case h => exact ResL.cons (Res1.tmp rfl) (ResL.nil)); (apply fin_R (Hn := [own 100 8 (.slice A2 (n + m) c2) (n + m) (xs ++ ys), own 100 8 u m ys])); (case p => exact (by (repeat first | with_reducible constructor | constructor))); exact ⟨A2, c2, rfl, rfl⟩)
end Go.Proofs.Ytckdlfbbkemklaa
end
section
/- tree: a node with others in its last child's place: the walk. -/
namespace Go.Proofs.Ytckdlfbbkemklaa
open Go Go.RowKit Go.Gv
set_option linter.unusedVariables false
set_option linter.unusedSimpArgs false

theorem KL_takes (l : List KEY) (i : Nat) : (KL l).take (i * 2) = KL (l.take i) := by
  have h := flat_cut (f := keyL) keyL_len5 l 0 i
  rw [Nat.zero_mul, List.drop_zero, List.drop_zero, Nat.sub_zero] at h
  exact h
theorem NL_takes (l : List Int) (i : Nat) : (NL l).take (i * 1) = NL (l.take i) := by
  rw [Nat.mul_one, NL, NL, List.map_take]
set_option maxHeartbeats 8000000 in
theorem view_replaced (pv d : Nat) (v : VS) (leaf : Bool) (A0 : Option Addr) (c0 : Nat) (A : Option Addr) (a : Nat) (B : Option Addr) (b : Nat) (y : ND3) (i c : Nat) (AR : Option Addr) (cr : Nat) (VV : List (Value × Value × Value)) (xs : List ND3)
    (hv : v.ok) (hl : v.S.W.length + 4 * xs.length ≤ 800000) (hn : xs.length ≤ 1000) (hxl : VV.length = xs.length) (hW : shp VV) (hR : ∀ x ∈ xs, ∀ e ∈ x.E, entR e)
    (hy : okN false y) (hyn : y.D.length ≤ 1000) (hi : i < y.D.length) (hic : i + c = y.D.length) (hcm : c ≤ xs.length) (hx0 : 0 < xs.length) :
    Gv.Spec Try.prog 116 #[.pointer (some ⟨pv, 0, none⟩), ndW false (.slice A0 y.E.length c0) (.slice A y.K.length a) (.slice B y.D.length b), .int .i64 (i : Int), .int .i64 (c : Int), .slice AR VV.length cr]
    [blk pv 194 (viewL d v), DSK d v.S, own 33 4 (.slice AR VV.length cr) VV.length (NDL leaf VV), manyRd (RDS VV xs), own 100 8 (.slice A0 y.E.length c0) y.E.length (EL y.E), own 98 2 (.slice A y.K.length a) y.K.length (KL y.K), own 3 1 (.slice B y.D.length b) y.D.length (NL y.D)]
    (fun r H' => ∃ (AZ : Option Addr) (cz : Nat) (VZ : List (Value × Value × Value)), r = .tuple #[.slice AZ VZ.length cz, .int .i64 ((rpN leaf v y i c xs).2.2 : Int)] ∧ VZ.length = (rpN leaf v y i c xs).2.1.length ∧ shp VZ
      ∧ H' = [blk pv 194 (viewL d (rpN leaf v y i c xs).1), DSK d (rpN leaf v y i c xs).1.S, own 33 4 (.slice AZ VZ.length cz) VZ.length (NDL false VZ), manyRd (RDS VZ (rpN leaf v y i c xs).2.1)]) := by
  refine Gv.Spec.of (fun w h0 hw => ?_)
  refine Calls.enter Try.func116 rfl rfl rfl hw ?_
  simp only [argSlots]
  (try dsimp only [List.cons_append, List.nil_append])
  obtain ⟨R0, hR0⟩ : ∃ R, R = rpN leaf v y i c xs := ⟨_, rfl⟩
  rw [← hR0]
  rw [rpN] at hR0
  have huc := unN_cnt (leaf := leaf) (v := v) (xs := xs)
  have hun := view_under pv d v leaf AR cr VV xs hv hxl (by omega) hl hW hR
  obtain ⟨U, hU⟩ : ∃ U, U = unN leaf v xs := ⟨_, rfl⟩
  rw [← hU] at hR0 huc hun
  obtain ⟨hyE, hyK⟩ := hy
  (refine Tri.seq (Tri.region ?_); apply Tri.op; rfl)
  (first | (apply o_boxA; (case hx => rfl); (case hn => rfl); intro b6) | (apply o_box1; (case hx => rfl); (case h1 => rfl); (case hn => rfl); intro b6))
  (apply Tri.op; rfl; apply o_assign; rfl; rfl; apply Tri.op; rfl; apply o_assign; rfl; rfl; refine Tri.nil (Tri.thenN (Tri.seq (Tri.region ?_))); apply Tri.op; rfl; apply o_move; rfl; rfl; apply Tri.op; rfl; apply o_move; rfl; rfl; apply Tri.op; rfl)
  (apply o_callS (hs := hun); (case hargs => (repeat first | exact evs.nil | (apply evs.cons; case a => rfl))); (case p => (repeat (first | exact Pulls.nil | (apply Pulls.cons; (case a => (first | ((repeat (first | with_reducible exact Gv.Pull.head | with_reducible apply Gv.Pull.tail)); done) | (repeat (first | exact Gv.Pull.head | apply Gv.Pull.tail)))))))); (case hn => rfl))
  rintro r1 H1 ⟨A1, a1, B1, b1, rfl, rfl⟩
  (try dsimp only [List.cons_append, List.nil_append])
  (apply Tri.op; rfl; apply o_move; rfl; rfl; apply Tri.op; rfl; apply o_extract; rfl; rfl; rfl; apply Tri.op; rfl; apply o_extract; rfl; rfl; rfl; apply Tri.op; rfl)
  (apply o_alloc; (case hn => rfl); intro b12)
  (apply Tri.op; rfl)
  (apply o_storeAll (ys := ndLL false (.slice none 0 0) (.slice A1 U.2.1.K.length a1) (.slice B1 U.2.1.D.length b1)); (case hx => rfl); (case hy => rfl); (case p => (first | ((repeat (first | with_reducible exact Pull.head | with_reducible apply Pull.tail)); done) | (repeat (first | exact Pull.head | apply Pull.tail)))); (case hl => rfl); (case hc => rfl); (case h1 => exact ndLL_one false none A1 B1 0 0 _ a1 _ b1))
  (apply Tri.op; rfl; apply o_assign; rfl; rfl; refine Tri.nil (Tri.thenN (Tri.seq (Tri.seq (Tri.region ?_)))); apply Tri.op; rfl; apply o_move; rfl; rfl; apply Tri.op; rfl; apply o_neq; rfl; rfl; rfl; refine Tri.nil (Tri.thenN ?_))
  by_cases hz : U.2.2 = 0
  · ((with_reducible apply Tri.setb 21 (false)); (case h => rfl); (case hi => (rw [hz]; rfl)))
    rw [if_pos hz] at hR0
    obtain ⟨hUE, hUK, hUD⟩ := huc hz
    obtain ⟨X, hX⟩ : ∃ X, X = U.2.1 := ⟨_, rfl⟩
    rw [← hX] at hR0 hUE hUK hUD ⊢
    obtain ⟨m, hm⟩ : ∃ m, m = xs.length := ⟨_, rfl⟩
    rw [← hm] at hUK hUD hcm hx0 hn
    obtain ⟨n, hn'⟩ : ∃ n, n = y.D.length := ⟨_, rfl⟩
    rw [← hn'] at hyn hi hic hyK
    rw [hUK, hUD, ← hn', hyK]
    have hkl : (KL y.K).length = n * 2 := KL_lens _ hyK
    have hnl : (NL y.D).length = n * 1 := NL_lens _ hn'.symm
    have hkl2 : (KL X.K).length = m * 2 := KL_lens _ hUK
    have hnl2 : (NL X.D).length = m * 1 := NL_lens _ hUD
    have hicz : (n : Int) = (i : Int) + (c : Int) := by omega
    (apply Tri.condF; rfl; rfl; refine Tri.skip (Tri.thenN (Tri.seq ?_)))
    (apply Tri.mixN 11 [blk b12 33 (ndLL false (.slice none 0 0) (.slice A1 m a1) (.slice B1 m b1)), own 98 2 (.slice A n a) n (KL y.K)] [blk b12 33 (ndLL false (.slice none 0 0) (.slice A1 m a1) (.slice B1 m b1)), own 98 2 (.slice A n a) n (KL y.K), blk b6 33 (ndLL false (.slice A0 y.E.length c0) (.slice A n a) (.slice B n b))]; (case hp => exact ⟨_, rfl⟩); (case p => (repeat (first | exact Pulls.nil | (apply Pulls.cons; (case a => (first | ((repeat (first | with_reducible exact Gv.Pull.head | with_reducible apply Gv.Pull.tail)); done) | (repeat (first | exact Gv.Pull.head | apply Gv.Pull.tail)))))))); (dsimp only [List.length]))
    ((apply TriN.q 0; (case ho => rfl); (case hg => rfl); (case hB => kernel_rfl); (case hd => rfl); (case hn => rfl); (case h => (intro F K hK; (try dsimp only [List.cons_append, List.nil_append]); apply o_fieldAddr; rfl; rfl; exact hK))); (apply TriN.q 1; (case ho => rfl); (case hg => rfl); (case hB => kernel_rfl); (case hd => rfl); (case hn => rfl); (case h => (intro F K hK; (try dsimp only [List.cons_append, List.nil_append]); apply o_load; rfl; (focus (first | ((repeat (first | with_reducible exact Pull.head | with_reducible apply Pull.tail)); done) | (repeat (first | exact Pull.head | apply Pull.tail)))); rfl; rfl; exact hK))); (apply TriN.q 3; (case ho => rfl); (case hg => rfl); (case hB => kernel_rfl); (case hd => rfl); (case hn => rfl); (case h => (intro F K hK; (try dsimp only [List.cons_append, List.nil_append]); apply o_move; rfl; rfl; exact hK))); (apply TriN.q 4; (case ho => rfl); (case hg => rfl); (case hB => kernel_rfl); (case hd => rfl); (case hn => rfl); (case h => (intro F K hK; (try dsimp only [List.cons_append, List.nil_append]); apply o_move; rfl; rfl; exact hK))); (apply TriN.q 5; (case ho => rfl); (case hg => rfl); (case hB => kernel_rfl); (case hd => rfl); (case hn => rfl); (case h => (intro F K hK; (try dsimp only [List.cons_append, List.nil_append]); apply o_move; rfl; rfl; exact hK))); (apply TriN.q 6; (case ho => rfl); (case hg => rfl); (case hB => kernel_rfl); (case hd => rfl); (case hn => rfl); (case h => (intro F K hK; (try dsimp only [List.cons_append, List.nil_append]); apply o_add64; rfl; rfl; rfl; (omega); exact hK))); (apply TriN.q 7; (case ho => rfl); (case hg => rfl); (case hB => kernel_rfl); (case hd => rfl); (case hn => rfl); (case h => (intro F K hK; (try dsimp only [List.cons_append, List.nil_append]); apply o_fieldAddr; rfl; rfl; exact hK))); (apply TriN.q 8; (case ho => rfl); (case hg => rfl); (case hB => kernel_rfl); (case hd => rfl); (case hn => rfl); (case h => (intro F K hK; (try dsimp only [List.cons_append, List.nil_append]); apply o_load; rfl; (focus (first | ((repeat (first | with_reducible exact Pull.head | with_reducible apply Pull.tail)); done) | (repeat (first | exact Pull.head | apply Pull.tail)))); rfl; rfl; exact hK))))
    (apply TriN.a 2; (case ho => rfl); (case hg => rfl); (case hr => kernel_rfl); (try dsimp only [List.cons_append, List.nil_append]))
    (apply o_callR (hs := slices_CloneKey (.slice A n a) n (KL y.K) hkl (KL_ones _) (by omega)); (case hargs => (repeat first | exact evs.nil | (apply evs.cons; case a => rfl))); (case hpre => exact rdw_own (v := .slice A n a) (by (first | ((repeat (first | with_reducible exact Pull.head | with_reducible apply Pull.tail)); done) | (repeat (first | exact Pull.head | apply Pull.tail))))); (case hn => rfl))
    rintro u1 H1 rfl
    (try dsimp only [List.cons_append, List.nil_append])
    (refine Tri.shape (e := 98) (size := 2) (v := u1) (by (first | ((repeat (first | with_reducible exact Pull.head | with_reducible apply Pull.tail)); done) | (repeat (first | exact Pull.head | apply Pull.tail)))) ?_; rintro ⟨A3, a3, rfl⟩)
    have hrK := slices_ReplEndKey A3 n a3 i (.slice A1 m a1) m (KL y.K) (KL X.K) hi (by omega) (by omega) hx0 (KL_ones _) hkl2 hkl
    rw [hicz] at hrK
    (apply TriN.back; (case hp => exact ⟨_, rfl⟩); (case p => (repeat (first | exact Pulls.nil | (apply Pulls.cons; (case a => (first | ((repeat (first | with_reducible exact Gv.Pull.head | with_reducible apply Gv.Pull.tail)); done) | (repeat (first | exact Gv.Pull.head | apply Gv.Pull.tail)))))))))
    (apply TriN.a 9; (case ho => rfl); (case hg => rfl); (case hr => kernel_rfl); (try dsimp only [List.cons_append, List.nil_append]))
    (apply o_callS (hs := hrK); (case hargs => (repeat first | exact evs.nil | (apply evs.cons; case a => rfl))); (case p => (repeat (first | exact Pulls.nil | (apply Pulls.cons; (case a => (first | ((repeat (first | with_reducible exact Gv.Pull.head | with_reducible apply Gv.Pull.tail)); done) | (repeat (first | exact Gv.Pull.head | apply Gv.Pull.tail)))))))); (case hn => rfl))
    rintro r3 H3 ⟨A4, a4, rfl, rfl⟩
    (try dsimp only [List.cons_append, List.nil_append])
    (apply TriN.back; (case hp => exact ⟨_, rfl⟩); (case p => (repeat (first | exact Pulls.nil | (apply Pulls.cons; (case a => (first | ((repeat (first | with_reducible exact Gv.Pull.head | with_reducible apply Gv.Pull.tail)); done) | (repeat (first | exact Gv.Pull.head | apply Gv.Pull.tail)))))))))
    ((apply TriN.p 10; (case ho => rfl); (case hg => rfl); (case hB => kernel_rfl); (case hd => rfl); (case hn => rfl); (case h => (intro F K hK; (try dsimp only [List.cons_append, List.nil_append]); apply o_fieldAddr; rfl; rfl; exact hK))))
    (apply TriN.less; (case ho => rfl); (case hg => rfl); (case hr => kernel_rfl); (try dsimp only [List.cons_append, List.nil_append]))
    (apply o_store; (case hx => rfl); (case hy => rfl); (case h1 => rfl); (case p => (first | ((repeat (first | with_reducible exact Pull.head | with_reducible apply Pull.tail)); done) | (repeat (first | exact Pull.head | apply Pull.tail)))); (case hi => exact (by decide : 2 < 4)))
    (apply TriM.back; (case p => (repeat (first | exact Pulls.nil | (apply Pulls.cons; (case a => (first | ((repeat (first | with_reducible exact Gv.Pull.head | with_reducible apply Gv.Pull.tail)); done) | (repeat (first | exact Gv.Pull.head | apply Gv.Pull.tail)))))))))
    (apply TriM.nil; (case hr => kernel_rfl); (try dsimp only [List.cons_append, List.nil_append]))
    (refine Tri.thenN (Tri.seq ?_))
    (apply Tri.mixN 11 [blk b12 33 (ndLL false (.slice none 0 0) (.slice A1 m a1) (.slice B1 m b1)), own 3 1 (.slice B n b) n (NL y.D)] [blk b12 33 (ndLL false (.slice none 0 0) (.slice A1 m a1) (.slice B1 m b1)), own 3 1 (.slice B n b) n (NL y.D), blk b6 33 (ndLL false (.slice A0 y.E.length c0) (.slice A4 (i + m) a4) (.slice B n b))]; (case hp => exact ⟨_, rfl⟩); (case p => (repeat (first | exact Pulls.nil | (apply Pulls.cons; (case a => (first | ((repeat (first | with_reducible exact Gv.Pull.head | with_reducible apply Gv.Pull.tail)); done) | (repeat (first | exact Gv.Pull.head | apply Gv.Pull.tail)))))))); (dsimp only [List.length]))
    ((apply TriN.q 0; (case ho => rfl); (case hg => rfl); (case hB => kernel_rfl); (case hd => rfl); (case hn => rfl); (case h => (intro F K hK; (try dsimp only [List.cons_append, List.nil_append]); apply o_fieldAddr; rfl; rfl; exact hK))); (apply TriN.q 1; (case ho => rfl); (case hg => rfl); (case hB => kernel_rfl); (case hd => rfl); (case hn => rfl); (case h => (intro F K hK; (try dsimp only [List.cons_append, List.nil_append]); apply o_load; rfl; (focus (first | ((repeat (first | with_reducible exact Pull.head | with_reducible apply Pull.tail)); done) | (repeat (first | exact Pull.head | apply Pull.tail)))); rfl; rfl; exact hK))); (apply TriN.q 3; (case ho => rfl); (case hg => rfl); (case hB => kernel_rfl); (case hd => rfl); (case hn => rfl); (case h => (intro F K hK; (try dsimp only [List.cons_append, List.nil_append]); apply o_move; rfl; rfl; exact hK))); (apply TriN.q 4; (case ho => rfl); (case hg => rfl); (case hB => kernel_rfl); (case hd => rfl); (case hn => rfl); (case h => (intro F K hK; (try dsimp only [List.cons_append, List.nil_append]); apply o_move; rfl; rfl; exact hK))); (apply TriN.q 5; (case ho => rfl); (case hg => rfl); (case hB => kernel_rfl); (case hd => rfl); (case hn => rfl); (case h => (intro F K hK; (try dsimp only [List.cons_append, List.nil_append]); apply o_move; rfl; rfl; exact hK))); (apply TriN.q 6; (case ho => rfl); (case hg => rfl); (case hB => kernel_rfl); (case hd => rfl); (case hn => rfl); (case h => (intro F K hK; (try dsimp only [List.cons_append, List.nil_append]); apply o_add64; rfl; rfl; rfl; (omega); exact hK))); (apply TriN.q 7; (case ho => rfl); (case hg => rfl); (case hB => kernel_rfl); (case hd => rfl); (case hn => rfl); (case h => (intro F K hK; (try dsimp only [List.cons_append, List.nil_append]); apply o_fieldAddr; rfl; rfl; exact hK))); (apply TriN.q 8; (case ho => rfl); (case hg => rfl); (case hB => kernel_rfl); (case hd => rfl); (case hn => rfl); (case h => (intro F K hK; (try dsimp only [List.cons_append, List.nil_append]); apply o_load; rfl; (focus (first | ((repeat (first | with_reducible exact Pull.head | with_reducible apply Pull.tail)); done) | (repeat (first | exact Pull.head | apply Pull.tail)))); rfl; rfl; exact hK))))
    (apply TriN.a 2; (case ho => rfl); (case hg => rfl); (case hr => kernel_rfl); (try dsimp only [List.cons_append, List.nil_append]))
    (apply o_callR (hs := slices_Cloneint (.slice B n b) n (NL y.D) hnl (NL_one5 _) (by omega)); (case hargs => (repeat first | exact evs.nil | (apply evs.cons; case a => rfl))); (case hpre => exact rdw_own (v := .slice B n b) (by (first | ((repeat (first | with_reducible exact Pull.head | with_reducible apply Pull.tail)); done) | (repeat (first | exact Pull.head | apply Pull.tail))))); (case hn => rfl))
    rintro u2 H2 rfl
    (try dsimp only [List.cons_append, List.nil_append])
    (refine Tri.shape (e := 3) (size := 1) (v := u2) (by (first | ((repeat (first | with_reducible exact Pull.head | with_reducible apply Pull.tail)); done) | (repeat (first | exact Pull.head | apply Pull.tail)))) ?_; rintro ⟨B3, b3, rfl⟩)
    have hrD := slices_ReplEndint B3 n b3 i (.slice B1 m b1) m (NL y.D) (NL X.D) hi (by omega) (by omega) hx0 (NL_one5 _) hnl2 hnl
    rw [hicz] at hrD
    (apply TriN.back; (case hp => exact ⟨_, rfl⟩); (case p => (repeat (first | exact Pulls.nil | (apply Pulls.cons; (case a => (first | ((repeat (first | with_reducible exact Gv.Pull.head | with_reducible apply Gv.Pull.tail)); done) | (repeat (first | exact Gv.Pull.head | apply Gv.Pull.tail)))))))))
    (apply TriN.a 9; (case ho => rfl); (case hg => rfl); (case hr => kernel_rfl); (try dsimp only [List.cons_append, List.nil_append]))
    (apply o_callS (hs := hrD); (case hargs => (repeat first | exact evs.nil | (apply evs.cons; case a => rfl))); (case p => (repeat (first | exact Pulls.nil | (apply Pulls.cons; (case a => (first | ((repeat (first | with_reducible exact Gv.Pull.head | with_reducible apply Gv.Pull.tail)); done) | (repeat (first | exact Gv.Pull.head | apply Gv.Pull.tail)))))))); (case hn => rfl))
    rintro r4 H4 ⟨B4, b4, rfl, rfl⟩
    (try dsimp only [List.cons_append, List.nil_append])
    (apply TriN.back; (case hp => exact ⟨_, rfl⟩); (case p => (repeat (first | exact Pulls.nil | (apply Pulls.cons; (case a => (first | ((repeat (first | with_reducible exact Gv.Pull.head | with_reducible apply Gv.Pull.tail)); done) | (repeat (first | exact Gv.Pull.head | apply Gv.Pull.tail)))))))))
    ((apply TriN.p 10; (case ho => rfl); (case hg => rfl); (case hB => kernel_rfl); (case hd => rfl); (case hn => rfl); (case h => (intro F K hK; (try dsimp only [List.cons_append, List.nil_append]); apply o_fieldAddr; rfl; rfl; exact hK))))
    (apply TriN.less; (case ho => rfl); (case hg => rfl); (case hr => kernel_rfl); (try dsimp only [List.cons_append, List.nil_append]))
    (apply o_store; (case hx => rfl); (case hy => rfl); (case h1 => rfl); (case p => (first | ((repeat (first | with_reducible exact Pull.head | with_reducible apply Pull.tail)); done) | (repeat (first | exact Pull.head | apply Pull.tail)))); (case hi => exact (by decide : 3 < 4)))
    (apply TriM.back; (case p => (repeat (first | exact Pulls.nil | (apply Pulls.cons; (case a => (first | ((repeat (first | with_reducible exact Gv.Pull.head | with_reducible apply Gv.Pull.tail)); done) | (repeat (first | exact Gv.Pull.head | apply Gv.Pull.tail)))))))))
    (apply TriM.nil; (case hr => kernel_rfl); (try dsimp only [List.cons_append, List.nil_append]))
    obtain ⟨Z, hZ⟩ : ∃ Z : ND3, Z = ⟨y.E, y.K.take i ++ X.K ++ y.K.drop (i + c), y.D.take i ++ X.D ++ y.D.drop (i + c)⟩ := ⟨_, rfl⟩
    rw [← hZ] at hR0
    have hkz : (KL y.K).take (i * 2) ++ KL X.K = KL Z.K := by
      rw [hZ]
      show _ = KL (y.K.take i ++ X.K ++ y.K.drop (i + c))
      rw [List.drop_eq_nil_of_le (by omega), List.append_nil, KL_app, KL_takes]
    have hdz : (NL y.D).take (i * 1) ++ NL X.D = NL Z.D := by
      rw [hZ]
      show _ = NL (y.D.take i ++ X.D ++ y.D.drop (i + c))
      rw [List.drop_eq_nil_of_le (by omega), List.append_nil, NL_app, NL_takes]
    have hZK : Z.K.length = i + m := by
      rw [hZ]
      show (y.K.take i ++ X.K ++ y.K.drop (i + c)).length = _
      rw [List.drop_eq_nil_of_le (by omega), List.append_nil, List.length_append, List.length_take]; omega
    have hZD : Z.D.length = i + m := by
      rw [hZ]
      show (y.D.take i ++ X.D ++ y.D.drop (i + c)).length = _
      rw [List.drop_eq_nil_of_le (by omega), List.append_nil, List.length_append, List.length_take]; omega
    have hZE : Z.E = y.E := by rw [hZ]
    have hZo : okN false Z := ⟨by rw [hZE]; exact hyE, by rw [hZK, hZD]⟩
    have hZs : szN false Z = i + m := hZD
    have hsp := node_Split false (szN false Z) Z (.slice A0 y.E.length c0) (.slice A4 (i + m) a4) (.slice B4 (i + m) b4) hZo (Nat.le_refl _) (by omega)
    have hsq : splN false (szN false Z + 1) Z = splitN false Z := rfl
    ((with_reducible apply Tri.eqA (A := own 98 2 (.slice A4 (i + m) a4) _ _) (B := own 98 2 (.slice A4 (i + m) a4) (i + m) (KL Z.K))); (case p => (first | ((repeat (first | with_reducible exact Pull.head | with_reducible apply Pull.tail)); done) | (repeat (first | exact Pull.head | apply Pull.tail)))); (case e => (rw [hkz])))
    ((with_reducible apply Tri.eqA (A := own 3 1 (.slice B4 (i + m) b4) _ _) (B := own 3 1 (.slice B4 (i + m) b4) (i + m) (NL Z.D))); (case p => (first | ((repeat (first | with_reducible exact Pull.head | with_reducible apply Pull.tail)); done) | (repeat (first | exact Pull.head | apply Pull.tail)))); (case e => (rw [hdz])))
    (refine Tri.thenN (Tri.seq (Tri.region ?_)); apply Tri.op; rfl)
    (apply o_loadAll (cs := ndLL false (.slice A0 y.E.length c0) (.slice A4 (i + m) a4) (.slice B4 (i + m) b4)); (case hx => rfl); (case p => exact (by (first | ((repeat (first | with_reducible exact Pull.head | with_reducible apply Pull.tail)); done) | (repeat (first | exact Pull.head | apply Pull.tail))))); (case hl => rfl); (case hn => rfl))
    (apply Tri.op; rfl)
    (apply o_callR (hs := hsp); (case hargs => (repeat first | exact evs.nil | (apply evs.cons; case a => rfl))); (case hpre => exact fun w' hw' => ⟨by rw [hZE]; exact rdw_own (v := .slice A0 y.E.length c0) (by (first | ((repeat (first | with_reducible exact Pull.head | with_reducible apply Pull.tail)); done) | (repeat (first | exact Pull.head | apply Pull.tail)))) w' hw', by rw [hZK]; exact rdw_own (v := .slice A4 (i + m) a4) (by (first | ((repeat (first | with_reducible exact Pull.head | with_reducible apply Pull.tail)); done) | (repeat (first | exact Pull.head | apply Pull.tail)))) w' hw', by rw [hZD]; exact rdw_own (v := .slice B4 (i + m) b4) (by (first | ((repeat (first | with_reducible exact Pull.head | with_reducible apply Pull.tail)); done) | (repeat (first | exact Pull.head | apply Pull.tail)))) w' hw'⟩); (case hn => rfl))
    rintro r5 H5 ⟨VZ, hVZ, hWZ, rfl⟩
    (try dsimp only [List.cons_append, List.nil_append])
    (refine Tri.shape (e := 33) (size := 4) (v := r5) (by (first | ((repeat (first | with_reducible exact Pull.head | with_reducible apply Pull.tail)); done) | (repeat (first | exact Pull.head | apply Pull.tail)))) ?_; rintro ⟨AZ, cz, rfl⟩)
    rw [hsq] at hVZ
    rw [hsq]
    (apply Tri.op; rfl; apply o_assign; rfl; rfl; apply Tri.op; rfl; apply o_assign; rfl; rfl; refine Tri.nil (Tri.thenN (Tri.ret ?_)))
    rw [hR0]
    (apply Tri.fin; (case hr => rfl); (case h => exact ResL.cons (Res1.tmp rfl) (ResL.cons (Res1.tmp rfl) (ResL.nil))); (apply fin_R (Hn := [blk pv 194 (viewL d U.1), DSK d U.1.S, own 33 4 (.slice AZ VZ.length cz) VZ.length (NDL false VZ), manyRd (RDS VZ (splitN false Z))])); (case p => exact (by (repeat (first | exact Pulls.nil | (apply Pulls.cons; (case a => (first | ((repeat (first | with_reducible exact Gv.Pull.head | with_reducible apply Gv.Pull.tail)); done) | (repeat (first | exact Gv.Pull.head | apply Gv.Pull.tail))))))))); exact ⟨AZ, cz, VZ, rfl, hVZ, hWZ, rfl⟩)
  · ((with_reducible apply Tri.setb 21 (true)); (case h => rfl); (case hi => (rw [decide_eq_true]; omega)))
    rw [if_neg hz] at hR0
    (apply Tri.condT; rfl; rfl; refine Tri.seq (Tri.region ?_); apply Tri.op; rfl; apply o_move; rfl; rfl; apply Tri.op; rfl; apply o_assign; rfl; rfl; apply Tri.op; rfl; apply o_assign; rfl; rfl; refine Tri.nil (Tri.thenN (Tri.ret (Tri.thenR ?_))))
    (with_reducible apply Tri.ownNil 33 4)
    apply Tri.noneM
    rw [hR0]
    (apply Tri.fin; (case hr => rfl); (case h => exact ResL.cons (Res1.tmp rfl) (ResL.cons (Res1.tmp rfl) (ResL.nil))); (apply fin_R (Hn := [blk pv 194 (viewL d U.1), DSK d U.1.S, own 33 4 (.slice none 0 0) 0 [], manyRd []])); (case p => exact (by (repeat (first | exact Pulls.nil | (apply Pulls.cons; (case a => (first | ((repeat (first | with_reducible exact Gv.Pull.head | with_reducible apply Gv.Pull.tail)); done) | (repeat (first | exact Gv.Pull.head | apply Gv.Pull.tail))))))))); exact ⟨none, 0, [], rfl, rfl, (fun v hv => by cases hv), rfl⟩)
end Go.Proofs.Ytckdlfbbkemklaa
end
section
/- tree: the nodes of a tree, in the order in which they are gone through, in plain terms. -/
namespace Go.Proofs.Ytckdlfbbkemklaa
open Go Go.RowKit Go.Gv
set_option linter.unusedVariables false
set_option linter.unusedSimpArgs false

/-- where the nodes below one stand, and they -/
def wkP (S : DS) : Nat → Int → List (Int × GOT)
  | 0, _ => []
  | h + 1, a => (a, rdN S a (decide (h = 0))) :: (rdN S a (decide (h = 0))).D.flatMap (wkP S h)
theorem wkP_E (S : DS) : ∀ (h : Nat) (a : Int), (wkP S h a).flatMap (fun p => p.2.E) = wkE S h a
  | 0, _ => rfl
  | h + 1, a => by
    rw [wkP, wkE, List.flatMap_cons, List.flatMap_assoc]
    congr 1
    exact flat_congr (fun k _ => wkP_E S h k)
theorem wkg_at {α : Type} {E : Int → List α} : ∀ (D : List Int) (j k : Nat) (d : Int), D[j]? = some d → k < (E d).length → (D.flatMap E)[((D.take j).flatMap E).length + k]? = (E d)[k]?
  | [], _, _, _, h, _ => by simp at h
  | x :: D, 0, k, d, h, hk => by
    simp at h; subst h
    simp only [List.take_zero, List.flatMap_nil, List.length_nil, Nat.zero_add, List.flatMap_cons]
    rw [List.getElem?_append_left hk]
  | x :: D, j + 1, k, d, h, hk => by
    have ih := wkg_at (E := E) D j k d (by simpa using h) hk
    simp only [List.take_succ_cons, List.flatMap_cons, List.length_append]
    rw [List.getElem?_append_right (by omega), show (E x).length + ((D.take j).flatMap E).length + k - (E x).length = ((D.take j).flatMap E).length + k by omega, ih]
theorem wkg_take {α : Type} {E : Int → List α} {D : List Int} {j : Nat} {d : Int} (h : D[j]? = some d) : ((D.take (j + 1)).flatMap E).length = ((D.take j).flatMap E).length + (E d).length := by
  rw [List.take_add_one, h]; simp
end Go.Proofs.Ytckdlfbbkemklaa
end
section
/- tree: each, All: the walk. -/
namespace Go.Proofs.Ytckdlfbbkemklaa
open Go Go.RowKit Go.Gv
set_option linter.unusedVariables false
set_option linter.unusedSimpArgs false

/-- what goes through the nodes below one of that height -/
def eachT (pv d : Nat) (v : VS) (h : Nat) (a : Int) : Prop := ∀ (gf : FuncId) [TFn Try.prog gf] (lb : List Value) (I : Nat → Atom),
    (∀ (k : Nat) (q : Int × GOT), (wkP v.S h a)[k]? = some q → ∀ (A : Option Addr) (c : Nat) (B : Option Addr) (b : Nat) (C : Option Addr) (e : Nat),
      Gv.Spec Try.prog gf ([.int .i64 q.1, ndW q.2.leaf (.slice A q.2.E.length c) (.slice B q.2.K.length b) (.slice C q.2.D.length e)] ++ lb).toArray [I k, own 100 8 (.slice A q.2.E.length c) q.2.E.length (EL q.2.E)] (fun _ H' => H' = [I (k + 1), own 100 8 (.slice A q.2.E.length c) q.2.E.length (EL q.2.E)])) →
    Gv.Spec Try.prog 108 #[.pointer (some ⟨pv, 0, none⟩), .int .i64 a, .int .i64 (h : Int), .func (.func gf) #[] lb.toArray]
      [I 0, blk pv 194 (viewL d v), DSK d v.S] (fun r H' => r = .int .i64 0 ∧ H' = [I (wkP v.S h a).length, blk pv 194 (viewL d v), DSK d v.S])
set_option maxHeartbeats 16000000 in
theorem tree_each_step (pv d : Nat) (v : VS) (hv : v.ok) (hl : v.S.W.length ≤ 1000000) (h : Nat) (a : Int) (hg : wkG v.S (h + 1) a) (hh : h ≤ 1000)
    (ih : ∀ k ∈ (rdN v.S a (decide (h = 0))).D, eachT pv d v h k) : eachT pv d v (h + 1) a := by
  intro gf _ lb I hI
  refine Gv.Spec.of (fun w h0 hw => ?_)
  refine Calls.enter Try.func108 rfl rfl rfl hw ?_
  simp only [argSlots]
  (try dsimp only [List.cons_append, List.nil_append])
  obtain ⟨ha, he, hEl, hDl, _⟩ := hg
  have hP : wkP v.S (h + 1) a = (a, rdN v.S a (decide (h = 0))) :: (rdN v.S a (decide (h = 0))).D.flatMap (wkP v.S h) := rfl
  rw [hP] at hI ⊢
  (refine Tri.seq (Tri.region ?_); apply Tri.op; rfl; apply o_assign; rfl; rfl; refine Tri.nil (Tri.thenN (Tri.seq (Tri.region ?_))); apply Tri.op; rfl; apply o_move; rfl; rfl; apply Tri.op; rfl; apply o_move; rfl; rfl; apply Tri.op; rfl; apply o_move; rfl; rfl; apply Tri.op; rfl; apply o_eql; rfl; rfl; rfl; apply Tri.op; rfl)
  ((with_reducible apply Tri.setb 18 ((decide (h = 0)))); (case h => rfl); (case hi => exact decide_eq_decide.2 (by omega)))
  (apply o_callS (hs := view_Node pv d v a (decide (h = 0)) hv hl ha); (case hargs => (repeat first | exact evs.nil | (apply evs.cons; case a => rfl))); (case p => (repeat first | with_reducible constructor | constructor)); (case hn => rfl))
  rintro r1 H1 ⟨A, c, B, b, C, e, rfl, rfl⟩
  (try dsimp only [List.cons_append, List.nil_append])
  have hI0 := hI 0 (a, rdN v.S a (decide (h = 0))) rfl A c B b C e
  generalize rdN v.S a (decide (h = 0)) = G at *
  (apply Tri.op; rfl; apply o_move; rfl; rfl; apply Tri.op; rfl; apply o_extract; rfl; rfl; rfl; apply Tri.op; rfl; apply o_extract; rfl; rfl; rfl; apply Tri.op; rfl)
  (apply o_alloc; (case hn => rfl); intro b9)
  (apply Tri.op; rfl)
  (apply o_storeAll (ys := ndLL G.leaf (.slice A G.E.length c) (.slice B G.K.length b) (.slice C G.D.length e)); (case hx => rfl); (case hy => rfl); (case p => (with_reducible repeat constructor)); (case hl => rfl); (case hc => rfl); (case h1 => exact ndLL_one G.leaf A B C _ c _ b _ e))
  (apply Tri.op; rfl; apply o_assign; rfl; rfl; refine Tri.nil (Tri.thenN (Tri.seq (Tri.seq (Tri.region ?_)))); apply Tri.op; rfl; apply o_move; rfl; rfl; apply Tri.op; rfl; apply o_neq; rfl; rfl; rfl; refine Tri.nil (Tri.thenN ?_))
  ((with_reducible apply Tri.setb 23 (false)); (case h => rfl); (case hi => (rw [he]; rfl)))
  (apply Tri.condF; rfl; rfl; refine Tri.skip (Tri.thenN (Tri.seq (Tri.region ?_))); apply Tri.op; rfl; apply o_move; rfl; rfl; apply Tri.op; rfl; apply o_move; rfl; rfl; apply Tri.op; rfl)
  (apply o_loadAll (cs := ndLL G.leaf (.slice A G.E.length c) (.slice B G.K.length b) (.slice C G.D.length e)); (case hx => rfl); (case p => exact (by (with_reducible repeat constructor))); (case hl => rfl); (case hn => rfl))
  (apply Tri.op; rfl)
  (apply o_callF (hs := hI0); (case hx => rfl); (case hargs => (repeat first | exact evs.nil | (apply evs.cons; case a => rfl))); (case p => (repeat first | with_reducible constructor | constructor)); (case hn => rfl))
  rintro r2 H2 rfl
  (try dsimp only [List.cons_append, List.nil_append])
  (refine Tri.nil (Tri.thenN (Tri.seq (Tri.seq (Tri.region ?_)))); apply Tri.op; rfl; apply o_fieldAddr; rfl; rfl; apply Tri.op; rfl; apply o_load; rfl; (with_reducible repeat constructor); rfl; rfl; apply Tri.op; rfl; apply o_len; rfl; rfl; apply Tri.op; rfl; apply o_move; rfl; rfl; refine Tri.nil (Tri.thenN (Tri.block ?_)))
  have hz : I (0 + 1) = I (1 + ((G.D.take 0).flatMap (wkP v.S h)).length) := rfl
  rw [hz]
  (apply Tri.loop (α := { j : Nat // j ≤ G.D.length }) (m := fun x => G.D.length - x.1) (Lx := fun x => [(0, .pointer (some ⟨pv, 0, none⟩)), (2, .int .i64 ((h + 1 : Nat) : Int)), (3, .func (.func gf) #[] lb.toArray), (30, .slice C G.D.length e), (31, .int .i64 (G.D.length : Int)), (32, .int .i64 (x.1 : Int))]) (Hx := fun x => [I (1 + ((G.D.take x.1).flatMap (wkP v.S h)).length), blk pv 194 (viewL d v), DSK d v.S, own 3 1 (.slice C G.D.length e) G.D.length (NL G.D), Ex h0]) (x0 := ⟨0, Nat.zero_le _⟩); (case hL => ((try dsimp only); (repeat (first | exact trivial | refine And.intro (by rfl) ?_)))); (case hH => ((try dsimp only); apply St.all; (repeat first | with_reducible constructor | constructor)))); (rintro ⟨j, hj⟩ mx hmx; (try dsimp only at hmx ⊢))
  (refine Tri.seq (Tri.region ?_); apply Tri.op; rfl; apply o_lss; rfl; rfl; rfl; refine Tri.nil (Tri.thenN (Tri.seq ?_)))
  (apply Tri.condD; (case hc => rfl); (all_goals intro hc))
  · have hjl : j < G.D.length := by omega
    have hjl' : j + 1 ≤ G.D.length := hjl
    obtain ⟨kd, hkd⟩ : ∃ kd, G.D[j]? = some kd := ⟨G.D[j]'hjl, List.getElem?_eq_getElem hjl⟩
    have hmem : kd ∈ G.D := List.mem_of_getElem? hkd
    have hNj : (NL G.D)[j]? = some (.int .i64 kd) := by rw [nl_get, hkd]; rfl
    have hoff := wkg_take (E := wkP v.S h) hkd
    have hcall := ih kd hmem gf lb (fun k => I (1 + ((G.D.take j).flatMap (wkP v.S h)).length + k)) (fun k q hq => by
      have hlt : k < (wkP v.S h kd).length := (List.getElem?_eq_some_iff.1 hq).1
      have h1 := wkg_at (E := wkP v.S h) G.D j k kd hkd hlt
      have h2 := hI (1 + ((G.D.take j).flatMap (wkP v.S h)).length + k) q (by
        rw [show 1 + ((G.D.take j).flatMap (wkP v.S h)).length + k = ((G.D.take j).flatMap (wkP v.S h)).length + k + 1 by omega, List.getElem?_cons_succ, h1]; exact hq)
      exact h2)
    have e1 : 1 + ((G.D.take j).flatMap (wkP v.S h)).length + (wkP v.S h kd).length = 1 + ((G.D.take (j + 1)).flatMap (wkP v.S h)).length := by omega
    rw [e1] at hcall
    (refine Tri.skip (Tri.thenN (Tri.seq (Tri.block (Tri.seq (Tri.region ?_))))); apply Tri.op; rfl)
    (apply o_ixOwn (j := j); (case hx => rfl); (case hy => rfl); (case p => (with_reducible repeat constructor)); (case hj => rfl); (case hlt => exact hjl); (case hn => rfl))
    (apply Tri.op; rfl)
    (apply o_loadOwn (j := j * 1); (case hx => rfl); (case p => (with_reducible repeat constructor)); (case hv => exact (by rw [Nat.mul_one]; exact hNj)); (case hn => rfl))
    (apply Tri.op; rfl; apply o_assign; rfl; rfl; refine Tri.nil (Tri.thenN (Tri.seq (Tri.region ?_))); apply Tri.op; rfl; apply o_move; rfl; rfl; apply Tri.op; rfl; apply o_move; rfl; rfl; apply Tri.op; rfl; apply o_move; rfl; rfl; apply Tri.op; rfl; apply o_sub64; rfl; rfl; rfl; (omega); apply Tri.op; rfl; apply o_move; rfl; rfl; apply Tri.op; rfl)
    ((with_reducible apply Tri.seti 39 ((h : Int))); (case h => rfl); (case hi => omega))
    skip
    (apply o_callS (hs := hcall); (case hargs => (repeat (first | exact evs.nil | (apply evs.cons; (case a => rfl))))); (case p => (repeat (first | exact Pulls.nil | (apply Pulls.cons; (case a => (first | ((repeat (first | with_reducible exact Gv.Pull.head | with_reducible apply Gv.Pull.tail)); done) | (repeat (first | exact Gv.Pull.head | apply Gv.Pull.tail)))))))); (case hn => rfl))
    rintro r3 H3 ⟨rfl, rfl⟩
    (try dsimp only [List.cons_append, List.nil_append])
    (apply Tri.op; rfl; apply o_assign; rfl; rfl; refine Tri.nil (Tri.thenN (Tri.seq (Tri.region ?_))); apply Tri.op; rfl; apply o_move; rfl; rfl; apply Tri.op; rfl; apply o_neq; rfl; rfl; rfl; refine Tri.nil (Tri.thenN ?_))
    ((with_reducible apply Tri.setb 43 (false)); (case h => rfl); (case hi => rfl))
    (apply Tri.condF; rfl; rfl; refine Tri.skip (Tri.blockN (Tri.thenN (Tri.region ?_))); apply Tri.op; rfl; apply o_add64; rfl; rfl; rfl; (omega); apply Tri.op; rfl; apply o_move; rfl; rfl; refine Tri.nil (Tri.thenN ?_))
    ((with_reducible apply Tri.seti 32 (((j + 1 : Nat) : Int))); (case h => rfl); (case hi => omega))
    (apply Tri.again (y := ⟨j + 1, hjl'⟩); (case p => ((try dsimp only); (repeat (first | exact Pulls.nil | (apply Pulls.cons; (case a => (first | ((repeat (first | with_reducible exact Gv.Pull.head | with_reducible apply Gv.Pull.tail)); done) | (repeat (first | exact Gv.Pull.head | apply Gv.Pull.tail))))))))); (case hm => ((try dsimp only); omega)); (try dsimp only))
    (repeat (first | exact trivial | refine And.intro (by rfl) ?_))
  · have hjl : j = G.D.length := by omega
    have e2 : I (1 + ((G.D.take j).flatMap (wkP v.S h)).length) = I (((a, G) :: G.D.flatMap (wkP v.S h)).length) := by
      rw [hjl, List.take_length, List.length_cons, Nat.add_comm]
    rw [e2]
    ((with_reducible refine Tri.exit (Tri.thenE (Tri.thenE (Tri.blockE (Tri.thenN (Tri.seq (Tri.region ?_))))))); apply Tri.op; rfl; apply o_assign; rfl; rfl; refine Tri.nil (Tri.thenN (Tri.ret ?_)))
    (apply Tri.fin; (case hr => rfl); (case h => exact ResL.cons (Res1.tmp rfl) (ResL.nil)); (apply fin_R (Hn := [I (((a, G) :: G.D.flatMap (wkP v.S h)).length), blk pv 194 (viewL d v), DSK d v.S])); (case p => exact (by (repeat first | with_reducible constructor | constructor))); exact ⟨rfl, rfl⟩)
theorem tree_each (pv d : Nat) (v : VS) (hv : v.ok) (hl : v.S.W.length ≤ 1000000) : ∀ (h : Nat) (a : Int), wkG v.S h a → h ≤ 1000 → eachT pv d v h a
  | 0, _, hg, _ => hg.elim
  | h + 1, a, hg, hh => tree_each_step pv d v hv hl h a hg (by omega) (fun k hk => tree_each pv d v hv hl h k (hg.2.2.2.2 k hk) (by omega))
end Go.Proofs.Ytckdlfbbkemklaa
end
section
/- tree: All: the walk. -/
namespace Go.Gv
open Go Go.RowKit
set_option linter.unusedVariables false
theorem spec_exA {α β : Type} {P : Program} {f : FuncId} {args : Array Value} {A : α → List Atom} {B : β → List Atom} {Pre Post : List Atom}
    (h : ∀ x, Spec P f args (A x ++ Pre) (fun _ H' => ∃ y, H' = B y ++ Post)) : Spec P f args (exA (fun x => star (A x)) :: Pre) (fun _ H' => H' = exA (fun y => star (B y)) :: Post) := fun w0 w H hw => by
  obtain ⟨x, h1⟩ := St.exA hw
  have h2 : St w0 w ((A x ++ Pre) ++ H) := by rw [List.append_assoc]; exact St.unstar h1
  refine (h x w0 w H h2).mono ?_
  intro e w' he
  cases e with
  | returned v =>
    obtain ⟨H', ⟨y, rfl⟩, h3⟩ := he
    refine ⟨_, rfl, ?_⟩
    rw [List.append_assoc] at h3
    exact St.toExA (A := fun y => star (B y)) y (St.star h3)
  | panicked c => exact he
  | outgrown => exact he
theorem Tri.toExA {α : Type} {P : Program} {w0 : World} {G : Act → World → Prop} {n : NT} {L : Slots} {H H' : List Atom} {A : α → List Atom} (x : α) (p : Pulls H (A x) H') (h : Tri w0 G n L (Gv.exA (fun y => Gv.star (A y)) :: H')) : Tri w0 G n L H :=
  Tri.conv (fun w hw => St.toExA (A := fun y => Gv.star (A y)) x (St.star ⟨(hw.pulls p).1, (hw.pulls p).2⟩)) h
end Go.Gv
namespace Go.Proofs.Ytckdlfbbkemklaa
open Go Go.RowKit Go.Gv
set_option linter.unusedVariables false
set_option linter.unusedSimpArgs false

set_option maxHeartbeats 8000000 in
theorem tree_all1 (a : Int) (lf : Bool) (kv dv : Value) (A : Option Addr) (c : Nat) (E o : List ENT) (b7 : Nat) (A' : Option Addr) (c' : Nat) (hb : o.length + E.length ≤ 1000000) :
    Gv.Spec Try.prog 109 #[.int .i64 a, ndW lf (.slice A E.length c) kv dv, .pointer (some ⟨b7, 0, none⟩)]
      ([blk b7 30 [.slice A' o.length c'], own 100 8 (.slice A' o.length c') o.length (EL o)] ++ [own 100 8 (.slice A E.length c) E.length (EL E)])
      (fun _ H' => ∃ z : Option Addr × Nat, H' = [blk b7 30 [.slice z.1 (o ++ E).length z.2], own 100 8 (.slice z.1 (o ++ E).length z.2) (o ++ E).length (EL (o ++ E))] ++ [own 100 8 (.slice A E.length c) E.length (EL E)]) := by
  refine Gv.Spec.of (fun w h0 hw => ?_)
  refine Calls.enter Try.func109 rfl rfl rfl hw ?_
  simp only [argSlots]
  (try dsimp only [List.cons_append, List.nil_append])
  (refine Tri.seq (Tri.region ?_); apply Tri.op; rfl)
  (first | (apply o_boxA; (case hx => rfl); (case hn => rfl); intro b4) | (apply o_box1; (case hx => rfl); (case h1 => rfl); (case hn => rfl); intro b4))
  (refine Tri.nil (Tri.thenN (Tri.region ?_)); apply Tri.op; rfl; apply o_load; rfl; (with_reducible repeat constructor); rfl; rfl; apply Tri.op; rfl; apply o_fieldAddr; rfl; rfl; apply Tri.op; rfl; apply o_load; rfl; (with_reducible repeat constructor); rfl; rfl; apply Tri.op; rfl)
  (apply o_append (m2 := E.length) (news := EL E); (case hx => rfl); (case hy => rfl); (case p => (with_reducible repeat constructor)); (case hr => exact rdw_own (v := .slice A E.length c) (by (with_reducible repeat constructor))); (case hl => exact EL_length E); (case h1 => exact EL_ones E); (case hb => omega); (case hn => rfl))
  intro vr
  (refine Tri.shape (e := 100) (size := 8) (v := vr) (by (with_reducible repeat constructor)) ?_; rintro ⟨A2, c2, rfl⟩)
  (apply Tri.op; rfl)
  (apply o_store; (case hx => rfl); (case hy => rfl); (case h1 => rfl); (case p => (with_reducible repeat constructor)); (case hi => exact (by decide : 0 < 1)))
  have hl' : (o ++ E).length = o.length + E.length := List.length_append
  ((with_reducible apply Tri.eqA (A := own 100 8 (.slice A2 (o.length + E.length) c2) _ _) (B := own 100 8 (.slice A2 (o ++ E).length c2) (o ++ E).length (EL (o ++ E)))); (case p => (with_reducible repeat constructor)); (case e => (rw [EL_app, hl'])))
  ((with_reducible apply Tri.eqA (A := blk b7 _ _) (B := blk b7 30 [.slice A2 (o ++ E).length c2])); (case p => (with_reducible repeat constructor)); (case e => (rw [hl']; rfl)))
  (refine Tri.nil ?_)
  apply Tri.fin
  case hr => rfl
  case h => exact ResL.nil
  apply fin_R (Hn := [blk b7 30 [.slice A2 (o ++ E).length c2], own 100 8 (.slice A2 (o ++ E).length c2) (o ++ E).length (EL (o ++ E)), own 100 8 (.slice A E.length c) E.length (EL E)])
  case p => exact (by (repeat first | with_reducible constructor | constructor))
  exact ⟨(A2, c2), rfl⟩
/-- what All holds behind the k-th node -/
def allI (b7 : Nat) (P : List (Int × GOT)) (k : Nat) : Atom := Gv.exA (fun z : Option Addr × Nat => Gv.star [blk b7 30 [.slice z.1 ((P.take k).flatMap fun p => p.2.E).length z.2], own 100 8 (.slice z.1 ((P.take k).flatMap fun p => p.2.E).length z.2) ((P.take k).flatMap fun p => p.2.E).length (EL ((P.take k).flatMap fun p => p.2.E))])
section
variable {P : Program} {w0 : World} {n : NT} {L : Slots} {H H' : List Atom} {G : Act → World → Prop}
theorem to_allI {b7 : Nat} {Q : List (Int × GOT)} (p : Pulls H [blk b7 30 [.slice none 0 0], own 100 8 (.slice none 0 0) 0 []] H') (h : Tri w0 G n L (allI b7 Q 0 :: H')) : Tri w0 G n L H :=
  Tri.toExA (P := Try.prog) (A := fun z : Option Addr × Nat => [blk b7 30 [.slice z.1 ((Q.take 0).flatMap fun p => p.2.E).length z.2], own 100 8 (.slice z.1 ((Q.take 0).flatMap fun p => p.2.E).length z.2) ((Q.take 0).flatMap fun p => p.2.E).length (EL ((Q.take 0).flatMap fun p => p.2.E))]) (none, 0) p h
theorem of_allI {b7 k : Nat} {Q : List (Int × GOT)} {es : List ENT} (he : (Q.take k).flatMap (fun p => p.2.E) = es) (p : Pull H (allI b7 Q k) H') (h : ∀ A c, Tri w0 G n L ([blk b7 30 [.slice A es.length c], own 100 8 (.slice A es.length c) es.length (EL es)] ++ H')) : Tri w0 G n L H := by
  subst he
  exact Tri.exA p (fun z => Tri.unstar .head (h z.1 z.2))
end
theorem all_spec (b7 : Nat) (Q : List (Int × GOT)) (hb : (Q.flatMap fun p => p.2.E).length ≤ 1000000) (k : Nat) (q : Int × GOT) (hq : Q[k]? = some q) (A : Option Addr) (c : Nat) (B : Option Addr) (b : Nat) (C : Option Addr) (e : Nat) :
    Gv.Spec Try.prog 109 ([Value.int .i64 q.1, ndW q.2.leaf (.slice A q.2.E.length c) (.slice B q.2.K.length b) (.slice C q.2.D.length e)] ++ [Value.pointer (some ⟨b7, 0, none⟩)]).toArray [allI b7 Q k, own 100 8 (.slice A q.2.E.length c) q.2.E.length (EL q.2.E)] (fun _ H' => H' = [allI b7 Q (k + 1), own 100 8 (.slice A q.2.E.length c) q.2.E.length (EL q.2.E)]) := by
  have hs : (Q.take (k + 1)).flatMap (fun p => p.2.E) = (Q.take k).flatMap (fun p => p.2.E) ++ q.2.E := by rw [List.take_add_one, hq]; simp
  have hbb : ((Q.take k).flatMap fun p => p.2.E).length + q.2.E.length ≤ 1000000 := by
    have h1 : ((Q.take (k + 1)).flatMap fun p => p.2.E).length ≤ (Q.flatMap fun p => p.2.E).length := by
      conv => rhs; rw [← List.take_append_drop (k + 1) Q]
      rw [List.flatMap_append, List.length_append]; omega
    rw [hs, List.length_append] at h1; omega
  have := spec_exA (P := Try.prog) (f := 109) (A := fun z : Option Addr × Nat => [blk b7 30 [.slice z.1 ((Q.take k).flatMap fun p => p.2.E).length z.2], own 100 8 (.slice z.1 ((Q.take k).flatMap fun p => p.2.E).length z.2) ((Q.take k).flatMap fun p => p.2.E).length (EL ((Q.take k).flatMap fun p => p.2.E))])
    (B := fun z : Option Addr × Nat => [blk b7 30 [.slice z.1 ((Q.take k).flatMap (fun p => p.2.E) ++ q.2.E).length z.2], own 100 8 (.slice z.1 ((Q.take k).flatMap (fun p => p.2.E) ++ q.2.E).length z.2) ((Q.take k).flatMap (fun p => p.2.E) ++ q.2.E).length (EL ((Q.take k).flatMap (fun p => p.2.E) ++ q.2.E))])
    (fun z => tree_all1 q.1 q.2.leaf (.slice B q.2.K.length b) (.slice C q.2.D.length e) A c q.2.E ((Q.take k).flatMap fun p => p.2.E) b7 z.1 z.2 hbb)
  rw [← hs] at this
  exact this
set_option maxHeartbeats 8000000 in
theorem tree_All (pv d : Nat) (v : VS) (hv : v.ok) (hl : v.S.W.length ≤ 1000000) (h : Nat) (a : Int) (hh : h ≤ 5) (hg : h = 0 ∨ wkG v.S h a) (hlen : (wkE v.S h a).length ≤ 1000000) :
    Gv.Spec Try.prog 75 #[.pointer (some ⟨pv, 0, none⟩), rootV a (h : Int)] [blk pv 194 (viewL d v), DSK d v.S]
    (fun r H' => ∃ A c, r = .tuple #[.slice A (wkE v.S h a).length c, .int .i64 0] ∧ H' = [blk pv 194 (viewL d v), DSK d v.S, own 100 8 (.slice A (wkE v.S h a).length c) (wkE v.S h a).length (EL (wkE v.S h a))]) := by
  refine Gv.Spec.of (fun w h0 hw => ?_)
  refine Calls.enter Try.func75 rfl rfl rfl hw ?_
  simp only [argSlots]
  (try dsimp only [List.cons_append, List.nil_append])
  (refine Tri.seq (Tri.region ?_); apply Tri.op; rfl)
  (first | (apply o_boxA; (case hx => rfl); (case hn => rfl); intro b3) | (apply o_box1; (case hx => rfl); (case h1 => rfl); (case hn => rfl); intro b3))
  (apply Tri.op; rfl; apply o_assign; rfl; rfl; apply Tri.op; rfl; apply o_assign; rfl; rfl; refine Tri.nil (Tri.thenN (Tri.seq (Tri.seq (Tri.region ?_)))); apply Tri.op; rfl; apply o_move; rfl; rfl; apply Tri.op; rfl)
  (apply o_loadAll (cs := rootL a (h : Int)); (case hx => rfl); (case p => exact (by (with_reducible repeat constructor))); (case hl => rfl); (case hn => rfl))
  (apply Tri.op; rfl)
  (apply o_callV (hs := view_may pv a h hh); (case hargs => (repeat first | exact evs.nil | (apply evs.cons; case a => rfl))); (case hpre => exact fun _ _ => trivial); (case hn => rfl))
  (apply Tri.op; rfl; apply o_assign; rfl; rfl; refine Tri.nil (Tri.thenN (Tri.seq (Tri.region ?_))); apply Tri.op; rfl; apply o_move; rfl; rfl; apply Tri.op; rfl; apply o_neq; rfl; rfl; rfl; apply Tri.op; rfl; apply o_move; rfl; rfl)
  ((with_reducible apply Tri.setb 14 (false)); (case h => rfl); (case hi => rfl))
  (apply Tri.opYes; rfl; rfl; rfl; apply o_fieldAddr; rfl; rfl; apply Tri.opYes; rfl; rfl; rfl; apply o_load; rfl; (with_reducible repeat constructor); rfl; rfl; apply Tri.opYes; rfl; rfl; rfl; apply o_eql; rfl; rfl; rfl; apply Tri.op; rfl; apply o_pickF; (iterate 4 rfl); refine Tri.nil (Tri.thenN ?_))
  rcases Nat.eq_zero_or_pos h with h00 | hpos
  · subst h00
    ((with_reducible apply Tri.setb 18 (true)); (case h => rfl); (case hi => rfl))
    (apply Tri.condT; rfl; rfl; refine Tri.seq (Tri.region ?_); apply Tri.op; rfl; apply o_move; rfl; rfl; apply Tri.op; rfl; apply o_assign; rfl; rfl; apply Tri.op; rfl; apply o_assign; rfl; rfl; refine Tri.nil (Tri.thenN (Tri.ret (Tri.thenR ?_))))
    (with_reducible apply Tri.ownNil 100 8)
    (apply Tri.fin; (case hr => rfl); (case h => exact ResL.cons (Res1.tmp rfl) (ResL.cons (Res1.tmp rfl) (ResL.nil))); (apply fin_R (Hn := [blk pv 194 (viewL d v), DSK d v.S, own 100 8 (.slice none 0 0) 0 []])); (case p => exact (by (repeat first | with_reducible constructor | constructor))); exact ⟨none, 0, rfl, rfl⟩)
  · have hg' : wkG v.S h a := by rcases hg with q | q; omega; exact q
    have hPE := wkP_E v.S h a
    have heach := tree_each pv d v hv hl h a hg' (by omega) 109
    generalize wkP v.S h a = P at hPE heach
    ((with_reducible apply Tri.setb 18 (false)); (case h => rfl); (case hi => exact decide_eq_false (by omega)))
    (apply Tri.condF; rfl; rfl; refine Tri.skip (Tri.thenN (Tri.seq (Tri.region ?_))); apply Tri.op; rfl)
    (apply o_alloc; (case hn => rfl); intro b7)
    (refine Tri.nil (Tri.thenN (Tri.seq (Tri.region ?_))); apply Tri.op; rfl; apply o_move; rfl; rfl; apply Tri.op; rfl; apply o_fieldAddr; rfl; rfl; apply Tri.op; rfl; apply o_load; rfl; (with_reducible repeat constructor); rfl; rfl; apply Tri.op; rfl; apply o_fieldAddr; rfl; rfl; apply Tri.op; rfl; apply o_load; rfl; (with_reducible repeat constructor); rfl; rfl; apply Tri.op; rfl)
    (apply o_makeFunc (vs := [.pointer (some ⟨b7, 0, none⟩)]); (case hc => exact ⟨rfl, trivial⟩); (case hn => rfl))
    (apply Tri.op; rfl)
    have hcall := heach [.pointer (some ⟨b7, 0, none⟩)] (allI b7 P) (all_spec b7 P (by rw [hPE]; exact hlen))
    (with_reducible apply Tri.ownNil 100 8)
    ((with_reducible apply Tri.eqA (A := blk b7 _ _) (B := blk b7 30 [.slice none 0 0])); (case p => (with_reducible repeat constructor)); (case e => rfl))
    refine to_allI (b7 := b7) (Q := P) (by (repeat first | with_reducible constructor | constructor)) ?_
    (apply o_callS (hs := hcall); (case hargs => (repeat first | exact evs.nil | (apply evs.cons; case a => rfl))); (case p => (repeat first | with_reducible constructor | constructor)); (case hn => rfl))
    rintro r3 H3 ⟨rfl, rfl⟩
    (try dsimp only [List.cons_append, List.nil_append])
    refine of_allI (he := show (P.take P.length).flatMap (fun p => p.2.E) = wkE v.S h a by rw [List.take_length]; exact hPE) (by (with_reducible repeat constructor)) (fun A c => ?_)
    (try dsimp only [List.cons_append, List.nil_append])
    (apply Tri.op; rfl; apply o_assign; rfl; rfl; refine Tri.nil (Tri.thenN (Tri.seq (Tri.seq (Tri.region ?_)))); apply Tri.op; rfl; apply o_move; rfl; rfl; apply Tri.op; rfl; apply o_neq; rfl; rfl; rfl; refine Tri.nil (Tri.thenN ?_))
    ((with_reducible apply Tri.setb 28 (false)); (case h => rfl); (case hi => rfl))
    (apply Tri.condF; rfl; rfl; refine Tri.skip (Tri.thenN (Tri.seq (Tri.region ?_))); apply Tri.op; rfl; apply o_load; rfl; (with_reducible repeat constructor); rfl; rfl; apply Tri.op; rfl; apply o_assign; rfl; rfl; apply Tri.op; rfl; apply o_assign; rfl; rfl; refine Tri.nil (Tri.thenN (Tri.ret ?_)))
    (apply Tri.fin; (case hr => rfl); (case h => exact ResL.cons (Res1.tmp rfl) (ResL.cons (Res1.tmp rfl) (ResL.nil))); (apply fin_R (Hn := [blk pv 194 (viewL d v), DSK d v.S, own 100 8 (.slice A (wkE v.S h a).length c) (wkE v.S h a).length (EL (wkE v.S h a))])); (case p => exact (by (repeat first | with_reducible constructor | constructor))); exact ⟨A, c, rfl, rfl⟩)
end Go.Proofs.Ytckdlfbbkemklaa
end
section
/- tree: where an entry belongs among others; a root that is written: the walk. -/
namespace Go.Proofs.Ytckdlfbbkemklaa
open Go Go.RowKit Go.Gv
set_option linter.unusedVariables false
set_option linter.unusedSimpArgs false

theorem key_cells (e : ENT) : ((entL e).drop (0 + 0)).take 2 = keyL e.key := rfl
set_option maxHeartbeats 4000000 in
theorem tree_insert1 (x y : ENT) (b7 : Nat) :
    Gv.Spec Try.prog 114 #[entV y, .pointer (some ⟨b7, 0, none⟩)] [blk b7 100 (entL x)] (fun r H' => r = .bool (lessK x.key y.key) ∧ H' = [blk b7 100 (entL x)]) := by
  refine Gv.Spec.of (fun w h0 hw => ?_)
  refine Calls.enter Try.func114 rfl rfl rfl hw ?_
  simp only [argSlots]
  (try dsimp only [List.cons_append, List.nil_append])
  (refine Tri.seq (Tri.region ?_); apply Tri.op; rfl)
  (first | (apply o_boxA; (case hx => rfl); (case hn => rfl); intro b2) | (apply o_box1; (case hx => rfl); (case h1 => rfl); (case hn => rfl); intro b2))
  (apply Tri.op; rfl; apply o_assign; rfl; rfl; refine Tri.nil (Tri.thenN (Tri.seq (Tri.region ?_))); apply Tri.op; rfl; apply o_fieldAddr; rfl; rfl; apply Tri.op; rfl)
  (apply o_loadAgg; (case hx => rfl); (case p => exact (by (with_reducible repeat constructor))); (case hv => exact key_cells x); (case hl => rfl); (case hn => rfl))
  (apply Tri.op; rfl; apply o_fieldAddr; rfl; rfl; apply Tri.op; rfl)
  (apply o_loadAgg; (case hx => rfl); (case p => exact (by (with_reducible repeat constructor))); (case hv => exact key_cells y); (case hl => rfl); (case hn => rfl))
  (apply Tri.op; rfl)
  (apply o_callV (hs := node_Less x.key y.key); (case hargs => (repeat first | exact evs.nil | (apply evs.cons; case a => rfl))); (case hpre => exact fun _ _ => trivial); (case hn => rfl))
  (apply Tri.op; rfl; apply o_assign; rfl; rfl; refine Tri.nil (Tri.thenN (Tri.ret ?_)))
  (apply Tri.fin; (case hr => rfl); (case h => exact ResL.cons (Res1.tmp rfl) (ResL.nil)); (apply fin_R (Hn := [blk b7 100 (entL x)])); (case p => exact (by (repeat first | with_reducible constructor | constructor))); exact ⟨rfl, rfl⟩)
set_option maxHeartbeats 8000000 in
theorem slices_IndexFuncE (A : Option Addr) (c : Nat) (E : List ENT) (x : ENT) (b7 : Nat) (hb : E.length ≤ 1000000) :
    Gv.Spec Try.prog 113 #[.slice A E.length c, .func (.func 114) #[] #[.pointer (some ⟨b7, 0, none⟩)]] [blk b7 100 (entL x), own 100 8 (.slice A E.length c) E.length (EL E)]
    (fun r H' => r = .int .i64 (if idxE E x.key < E.length then (idxE E x.key : Int) else -1) ∧ H' = [blk b7 100 (entL x), own 100 8 (.slice A E.length c) E.length (EL E)]) := by
  refine Gv.Spec.of (fun w h0 hw => ?_)
  refine Calls.enter Try.func113 rfl rfl rfl hw ?_
  simp only [argSlots]
  (try dsimp only [List.cons_append, List.nil_append])
  (refine Tri.seq (Tri.region ?_); apply Tri.op; rfl; apply o_assign; rfl; rfl; refine Tri.nil (Tri.thenN (Tri.seq (Tri.seq (Tri.region ?_)))); apply Tri.op; rfl; apply o_move; rfl; rfl; apply Tri.op; rfl; apply o_len; rfl; rfl; apply Tri.op; rfl; apply o_move; rfl; rfl; refine Tri.nil (Tri.thenN (Tri.block ?_)))
  (apply Tri.loop (α := Σ' (i : Nat) (f : Nat), f + i = E.length + 1 ∧ i ≤ E.length ∧ idxGo E x.key f i = idxE E x.key) (m := fun z => E.length - z.1) (Lx := fun z => [(0, .slice A E.length c), (1, .func (.func 114) #[] #[.pointer (some ⟨b7, 0, none⟩)]), (7, .int .i64 (E.length : Int)), (8, .int .i64 (z.1 : Int))]) (Hx := fun z => [blk b7 100 (entL x), own 100 8 (.slice A E.length c) E.length (EL E), Ex h0]) (x0 := ⟨0, E.length + 1, rfl, Nat.zero_le _, rfl⟩); (case hL => ((try dsimp only); (repeat (first | exact trivial | refine And.intro (by rfl) ?_)))); (case hH => ((try dsimp only); apply St.all; (repeat first | with_reducible constructor | constructor)))); (rintro ⟨i, f, hf, hi, hg⟩ mx hmx; (try dsimp only at hmx ⊢))
  obtain ⟨g, rfl⟩ : ∃ g, f = g + 1 := ⟨f - 1, by omega⟩
  rw [idxGo] at hg
  (refine Tri.seq (Tri.region ?_); apply Tri.op; rfl; apply o_lss; rfl; rfl; rfl; refine Tri.nil (Tri.thenN (Tri.seq ?_)))
  (apply Tri.condD; (case hc => rfl); (all_goals intro hc))
  · have hil : i < E.length := by omega
    have hil' : i + 1 ≤ E.length := hil
    have hf' : g + (i + 1) = E.length + 1 := by omega
    rw [if_pos hil] at hg
    obtain ⟨y, hy⟩ : ∃ y, y = E.getD i ent0 := ⟨_, rfl⟩
    have hE8 : ((EL E).drop (i * 8)).take 8 = entL y := by rw [hy]; exact EL_eight E i hil
    rw [← hy] at hg
    have hcl : Gv.Spec Try.prog 114 ([entV y] ++ [Value.pointer (some ⟨b7, 0, none⟩)]).toArray _ _ := tree_insert1 x y b7
    (refine Tri.skip (Tri.thenN (Tri.seq (Tri.block (Tri.seq (Tri.region ?_))))); apply Tri.op; rfl; apply o_move; rfl; rfl; apply Tri.op; rfl; apply o_assign; rfl; rfl; refine Tri.nil (Tri.thenN (Tri.seq (Tri.region ?_))); apply Tri.op; rfl; apply o_move; rfl; rfl; apply Tri.op; rfl; apply o_move; rfl; rfl; apply Tri.op; rfl; apply o_move; rfl; rfl; apply Tri.op; rfl)
    (apply o_ixOwn (j := i); (case hx => rfl); (case hy => rfl); (case p => (with_reducible repeat constructor)); (case hj => rfl); (case hlt => exact hil); (case hn => rfl))
    (apply Tri.op; rfl)
    (apply o_loadAggOwn (ys := entL y); (case hx => rfl); (case p => exact (by (with_reducible repeat constructor))); (case hv => exact hE8); (case hl => rfl); (case hn => rfl))
    (apply Tri.op; rfl)
    (apply o_callF (hs := hcl); (case hx => rfl); (case hargs => (repeat first | exact evs.nil | (apply evs.cons; case a => rfl))); (case p => (repeat first | with_reducible constructor | constructor)); (case hn => rfl))
    rintro r3 H3 ⟨rfl, rfl⟩
    (try dsimp only [List.cons_append, List.nil_append])
    (refine Tri.nil (Tri.thenN ?_))
    cases hq : lessK x.key y.key with
    | true =>
      rw [if_pos hq] at hg
      (apply Tri.condT; rfl; rfl; refine Tri.seq (Tri.region ?_); apply Tri.op; rfl; apply o_move; rfl; rfl; apply Tri.op; rfl; apply o_assign; rfl; rfl; refine Tri.nil (Tri.thenN (Tri.ret (Tri.blockR (Tri.thenR (Tri.thenR (Tri.blockR (Tri.thenR ?_))))))))
      rw [← hg, if_pos hil]
      (apply Tri.fin; (case hr => rfl); (case h => exact ResL.cons (Res1.tmp rfl) (ResL.nil)); (apply fin_R (Hn := [blk b7 100 (entL x), own 100 8 (.slice A E.length c) E.length (EL E)])); (case p => exact (by (repeat first | with_reducible constructor | constructor))); exact ⟨rfl, rfl⟩)
    | false =>
      rw [if_neg (by rw [hq]; simp)] at hg
      (apply Tri.condF; rfl; rfl; refine Tri.skip (Tri.blockN (Tri.thenN (Tri.region ?_))); apply Tri.op; rfl; apply o_add64; rfl; rfl; rfl; (omega); apply Tri.op; rfl; apply o_move; rfl; rfl; refine Tri.nil (Tri.thenN ?_))
      ((with_reducible apply Tri.seti 8 (((i + 1 : Nat) : Int))); (case h => rfl); (case hi => omega))
      (apply Tri.again (y := ⟨i + 1, g, hf', hil', hg⟩); (case p => ((try dsimp only); (repeat (first | exact Pulls.nil | (apply Pulls.cons; (case a => (first | ((repeat (first | with_reducible exact Gv.Pull.head | with_reducible apply Gv.Pull.tail)); done) | (repeat (first | exact Gv.Pull.head | apply Gv.Pull.tail))))))))); (case hm => ((try dsimp only); omega)); (try dsimp only))
      (repeat (first | exact trivial | refine And.intro (by rfl) ?_))
  · have hil : ¬ i < E.length := by omega
    rw [if_neg hil] at hg
    ((with_reducible refine Tri.exit (Tri.thenE (Tri.thenE (Tri.blockE (Tri.thenN (Tri.seq (Tri.region ?_))))))); apply Tri.op; rfl; apply o_assign; rfl; rfl; refine Tri.nil (Tri.thenN (Tri.ret ?_)))
    rw [← hg, if_neg (Nat.lt_irrefl _)]
    (apply Tri.fin; (case hr => rfl); (case h => exact ResL.cons (Res1.tmp rfl) (ResL.nil)); (apply fin_R (Hn := [blk b7 100 (entL x), own 100 8 (.slice A E.length c) E.length (EL E)])); (case p => exact (by (repeat first | with_reducible constructor | constructor))); exact ⟨rfl, rfl⟩)
end Go.Proofs.Ytckdlfbbkemklaa
end
