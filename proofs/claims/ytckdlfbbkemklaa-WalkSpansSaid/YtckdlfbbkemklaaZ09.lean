/- Texts of this claim, put together: TvWalk5, DvWalk2, TvWalk6, LwWalk2, WkWalk4, LwWalk3, WkWalk5, WkWalk7, WkWalk8, WkPlain8, GvLaw. -/
import Derived.Test.YtckdlfbbkemklaaZ06
import Derived.Test.YtckdlfbbkemklaaZ08
import Derived.Test.YtckdlfbbkemklaaZ03
import Derived.Test.YtckdlfbbkemklaaZ07
import Derived.Test.YtckdlfbbkemklaaZ02
section
/- tree: meets; a view's Load: the walk. -/
namespace Go.Proofs.Ytckdlfbbkemklaa
open Go Go.RowKit Go.Gv
set_option linter.unusedVariables false
set_option linter.unusedSimpArgs false

set_option maxHeartbeats 4000000 in
theorem tree_meets (a b : ENT) : SpecR Try.prog 76 #[entV a, entV b] (fun _ => True) (fun r H' => r = .bool (meetsE a b) ∧ H' = []) := by
  refine SpecR.of (fun w _ => ?_)
  refine Calls.enter Try.func76 rfl rfl rfl (St.rebase w) ?_
  simp only [argSlots]
  have hm : meetsE a b = (decide (a.key.1 = b.key.1) && (decide (a.key.2 ≤ b.fin) && decide (b.key.2 ≤ a.fin))) := rfl
  (refine Tri.seq (Tri.region ?_); apply Tri.op; rfl)
  (first | (apply o_boxA; (case hx => rfl); (case hn => rfl); intro b2) | (apply o_box1; (case hx => rfl); (case h1 => rfl); (case hn => rfl); intro b2))
  (apply Tri.op; rfl)
  (first | (apply o_boxA; (case hx => rfl); (case hn => rfl); intro b3) | (apply o_box1; (case hx => rfl); (case h1 => rfl); (case hn => rfl); intro b3))
  (apply Tri.op; rfl; apply o_assign; rfl; rfl; refine Tri.nil (Tri.thenN (Tri.seq (Tri.region ?_))); apply Tri.op; rfl; apply o_fieldAddr; rfl; rfl; apply Tri.op; rfl; apply o_fieldAddr; rfl; rfl; apply Tri.op; rfl; apply o_load; rfl; (with_reducible repeat constructor); rfl; rfl; apply Tri.op; rfl; apply o_fieldAddr; rfl; rfl; apply Tri.op; rfl; apply o_fieldAddr; rfl; rfl; apply Tri.op; rfl; apply o_load; rfl; (with_reducible repeat constructor); rfl; rfl; apply Tri.op; rfl; apply o_eql; rfl; rfl; rfl; apply Tri.op; rfl; apply o_move; rfl; rfl)
  by_cases h1 : a.key.1 = b.key.1
  · rw [decide_eq_true h1, Bool.true_and] at hm
    ((with_reducible apply Tri.setb 12 (true)); (case h => rfl); (case hi => exact decide_eq_true h1))
    (apply Tri.opYes; rfl; rfl; rfl; apply o_fieldAddr; rfl; rfl; apply Tri.opYes; rfl; rfl; rfl; apply o_fieldAddr; rfl; rfl; apply Tri.opYes; rfl; rfl; rfl; apply o_load; rfl; (with_reducible repeat constructor); rfl; rfl; apply Tri.opYes; rfl; rfl; rfl; apply o_fieldAddr; rfl; rfl; apply Tri.opYes; rfl; rfl; rfl; apply o_load; rfl; (with_reducible repeat constructor); rfl; rfl; apply Tri.opYes; rfl; rfl; rfl; apply o_leq; rfl; rfl; rfl; apply Tri.op; rfl; apply o_pickT; (iterate 4 rfl); apply Tri.op; rfl; apply o_move; rfl; rfl)
    by_cases h2 : a.key.2 ≤ b.fin
    · rw [decide_eq_true h2, Bool.true_and] at hm
      ((with_reducible apply Tri.setb 20 (true)); (case h => rfl); (case hi => exact decide_eq_true h2))
      (apply Tri.opYes; rfl; rfl; rfl; apply o_fieldAddr; rfl; rfl; apply Tri.opYes; rfl; rfl; rfl; apply o_fieldAddr; rfl; rfl; apply Tri.opYes; rfl; rfl; rfl; apply o_load; rfl; (with_reducible repeat constructor); rfl; rfl; apply Tri.opYes; rfl; rfl; rfl; apply o_fieldAddr; rfl; rfl; apply Tri.opYes; rfl; rfl; rfl; apply o_load; rfl; (with_reducible repeat constructor); rfl; rfl; apply Tri.opYes; rfl; rfl; rfl; apply o_leq; rfl; rfl; rfl; apply Tri.op; rfl; apply o_pickT; (iterate 4 rfl); apply Tri.op; rfl; apply o_assign; rfl; rfl; refine Tri.nil (Tri.thenN (Tri.ret ?_)))
      (apply Tri.fin; (case hr => rfl); (case h => exact ResL.cons (Res1.tmp rfl) (ResL.nil)); (apply fin_R (Hn := [])); (case p => exact (by (repeat first | with_reducible constructor | constructor))); exact ⟨by simp only [tupled]; (rw [hm]), rfl⟩)
    · rw [decide_eq_false h2, Bool.false_and] at hm
      ((with_reducible apply Tri.setb 20 (false)); (case h => rfl); (case hi => exact decide_eq_false h2))
      ((iterate 6 apply Tri.opNo (c := false); (iterate 6 rfl)); apply Tri.op; rfl; apply o_pickF; (iterate 4 rfl); apply Tri.op; rfl; apply o_assign; rfl; rfl; refine Tri.nil (Tri.thenN (Tri.ret ?_)))
      (apply Tri.fin; (case hr => rfl); (case h => exact ResL.cons (Res1.tmp rfl) (ResL.nil)); (apply fin_R (Hn := [])); (case p => exact (by (repeat first | with_reducible constructor | constructor))); exact ⟨by simp only [tupled]; (rw [hm]), rfl⟩)
  · rw [decide_eq_false h1, Bool.false_and] at hm
    ((with_reducible apply Tri.setb 12 (false)); (case h => rfl); (case hi => exact decide_eq_false h1))
    ((iterate 6 apply Tri.opNo (c := false); (iterate 6 rfl)); apply Tri.op; rfl; apply o_pickF; (iterate 4 rfl); apply Tri.op; rfl; apply o_move; rfl; rfl; (iterate 6 apply Tri.opNo (c := false); (iterate 6 rfl)); apply Tri.op; rfl; apply o_pickF; (iterate 4 rfl); apply Tri.op; rfl; apply o_assign; rfl; rfl; refine Tri.nil (Tri.thenN (Tri.ret ?_)))
    (apply Tri.fin; (case hr => rfl); (case h => exact ResL.cons (Res1.tmp rfl) (ResL.nil)); (apply fin_R (Hn := [])); (case p => exact (by (repeat first | with_reducible constructor | constructor))); exact ⟨by simp only [tupled]; (rw [hm]), rfl⟩)
theorem rd_noneT (w : World) : RdW w (.slice none 0 0) 0 [] := ⟨none, 0, rfl, ⟨by simp, by decide⟩, fun j u h => by simp at h⟩
set_option maxHeartbeats 16000000 in
theorem view_Load (pv d : Nat) (v : VS) (A : Option Addr) (c : Nat) (l : List ENT) (lv : List (Value × Nat × List Value)) (hv : v.ok) (hl : loadOk l) (hn : l.length ≤ 200000) (hwl : v.S.W.length + 16 * ((l.length + 6) / 7) ≤ 800000)
    (mL : (.slice A l.length c, l.length, EL l) ∈ lv) (hmc : l.length ≤ c) :
    Gv.Spec Try.prog 68 #[.pointer (some ⟨pv, 0, none⟩), .slice A l.length c] [blk pv 194 (viewL d v), DSK d v.S, manyRd lv]
    (fun r H' => r = .tuple #[.agg #[.int .i64 (loadN v l).2.1.1, .int .i64 ((loadN v l).2.1.2 : Int)], .int .i64 ((loadN v l).2.2 : Int)]
      ∧ H' = [blk pv 194 (viewL d (loadN v l).1), DSK d (loadN v l).1.S, manyRd lv]) := by
  obtain ⟨hlo, hlk, hlR⟩ := hl
  refine Gv.Spec.of (fun w h0 hw => ?_)
  refine Calls.enterM Try.func68 rfl rfl rfl hw ?_
  simp only [argSlots]
  (try dsimp only [List.cons_append, List.nil_append])
  (refine TriR.seq (TriR.region ?_); apply TriR.op; rfl; rfl)
  (apply o_alloc; (case hn => rfl); intro b4)
  (apply TriR.op; rfl; rfl; apply o_assign; rfl; rfl; refine TriR.nil (Tri.thenN (TriR.seq (TriR.seq (TriR.region ?_)))); apply TriR.op; rfl; rfl; apply o_move; rfl; rfl; apply TriR.op; rfl; rfl; apply o_eqlN; rfl; rfl; rfl; refine TriR.nil (Tri.thenN ?_))
  ((with_reducible apply Tri.setb 11 (false)); (case h => rfl); (case hi => rfl))
  (apply TriR.condF; rfl; rfl; refine TriR.skip (Tri.thenN (TriR.seq (TriR.seq (TriR.region ?_)))); apply TriR.op; rfl; rfl; apply o_move; rfl; rfl; apply TriR.op; rfl; rfl; apply o_len; rfl; rfl; apply TriR.op; rfl; rfl; apply o_move; rfl; rfl; refine TriR.nil (Tri.thenN (TriR.block ?_)))
  (apply TriR.loop (α := { i : Nat // i ≤ l.length }) (m := fun x => l.length - x.1) (Lx := fun x => [(0, .pointer (some ⟨pv, 0, none⟩)), (1, .slice A l.length c), (4, .pointer (some ⟨b4, 0, none⟩)), (13, .slice A l.length c), (14, .int .i64 (l.length : Int)), (15, .int .i64 (x.1 : Int))]) (Hx := fun x => [blk b4 48 [.int .i64 0, .int .i64 0], blk pv 194 (viewL d v), DSK d v.S, manyRd lv, Ex h0]) (x0 := ⟨0, Nat.zero_le _⟩); (case hL => ((try dsimp only); (repeat (first | exact trivial | refine And.intro (by rfl) ?_)))); (case hH => ((try dsimp only); apply St.all; (repeat first | with_reducible constructor | constructor)))); (rintro ⟨i, hi⟩ mx hmx; (try dsimp only at hmx ⊢))
  (refine TriR.seq (TriR.region ?_); apply TriR.op; rfl; rfl; apply o_lss; rfl; rfl; rfl; refine TriR.nil (Tri.thenN (TriR.seq ?_)))
  (apply TriR.condD; (case hc => rfl); (all_goals intro hc))
  · have hil : i < l.length := by omega
    have hil' : i + 1 ≤ l.length := hil
    obtain ⟨x, hx⟩ : ∃ x, x = l.getD i ent0 := ⟨_, rfl⟩
    have hxo := hlo i hil
    rw [← hx] at hxo
    have hEl : (EL l).length = l.length * 8 := EL_lens l rfl
    have hE8 : ((EL l).drop (i * 8)).take 8 = entL x := by rw [hx]; exact EL_eight l i hil
    (refine TriR.skip (Tri.thenN (TriR.seq (TriR.block (TriR.seq (TriR.region ?_))))); apply TriR.op; rfl; rfl; apply o_move; rfl; rfl; apply TriR.op; rfl; rfl)
    (apply o_ixW (j := i); (case hx => rfl); (case hy => rfl); (case hr => exact rdw_many (by (with_reducible repeat constructor)) mL); (case hj => rfl); (case hlt => exact hil); (case hl => (rw [hEl]; omega)); (case hn => rfl))
    (apply TriR.op; rfl; rfl)
    (apply o_loadAggW; (case hx => rfl); (case hr => exact rdw_many (by (with_reducible repeat constructor)) mL); (case hv => exact hE8); (case hl => rfl); (case hn => rfl))
    (apply TriR.op; rfl; rfl)
    (apply o_alloc; (case hn => rfl); intro b7)
    (apply TriR.op; rfl; rfl; apply o_assign; rfl; rfl; apply TriR.op; rfl; rfl)
    (apply o_storeAll (ys := entL x); (case hx => rfl); (case hy => rfl); (case p => (with_reducible repeat constructor)); (case hl => rfl); (case hc => rfl); (case h1 => exact entL_one5 x))
    (refine TriR.nil (Tri.thenN (TriR.seq (TriR.seq (TriR.region ?_)))); apply TriR.op; rfl; rfl)
    (apply o_loadAll (cs := entL x); (case hx => rfl); (case p => exact (by (with_reducible repeat constructor))); (case hl => rfl); (case hn => rfl))
    (apply TriR.op; rfl; rfl)
    (apply o_litSl (ys := entL x); (case hp => (repeat first | exact pev.nil | (apply pev.cons; case a => rfl))); (case hm => rfl); (case hf => rfl); (case hn => rfl); intro vl)
    (refine Tri.shape (e := 100) (size := 8) (v := vl) (by (with_reducible repeat constructor)) ?_; rintro ⟨Av, cv, rfl⟩)
    (apply TriR.op; rfl; rfl)
    (apply o_build (ys := ndLL true (.slice Av 1 cv) (.slice none 0 0) (.slice none 0 0)); (case hp => (repeat first | exact pev.nil | (apply pev.cons; case a => rfl))); (case hf => rfl); (case hn => rfl))
    (apply TriR.op; rfl; rfl)
    ((with_reducible apply Tri.eqA (A := own 100 8 (.slice Av 1 cv) _ _) (B := own 100 8 (.slice Av 1 cv) [x].length (EL [x]))); (case p => (with_reducible repeat constructor)); (case e => rfl))
    (apply o_callV (hs := node_Right true (.slice Av 1 cv) (.slice none 0 0) (.slice none 0 0) [x] [] []); (case hargs => (repeat first | exact evs.nil | (apply evs.cons; case a => rfl))); (case hpre => exact fun w' hw' => ⟨rdw_own (v := .slice Av 1 cv) (by (with_reducible repeat constructor)) w' hw', rd_noneT _, rd_noneT _⟩); (case hn => rfl))
    ((with_reducible apply Tri.setb 23 (true)); (case h => rfl); (case hi => exact one_right hxo))
    (apply TriR.op; rfl; rfl; apply o_not; rfl; rfl; refine TriR.nil (Tri.thenN ?_))
    ((with_reducible apply Tri.setb 24 (false)); (case h => rfl); (case hi => rfl))
    (apply TriR.condF; rfl; rfl; refine TriR.skip (Tri.thenN (TriR.seq ?_)))
    ((first | with_reducible apply Tri.mix [manyRd lv, blk b7 100 (entL x)] | (apply TriR.mix [manyRd lv, blk b7 100 (entL x)]; (case hnd => rfl))); (case p => (repeat first | with_reducible constructor | constructor)); (dsimp only [List.length]))
    ((first | (apply TriM.q 0; rfl; rfl) | (apply TriM.qYes 0; rfl; rfl; rfl; with_reducible rfl)); kernel_rfl; rfl; rfl; (intro F K hK; apply o_move; rfl; rfl; exact hK); (first | (apply TriM.q 1; rfl; rfl) | (apply TriM.qYes 1; rfl; rfl; rfl; with_reducible rfl)); kernel_rfl; rfl; rfl; (intro F K hK; apply o_gtr; rfl; rfl; rfl; exact hK); (first | (apply TriM.q 2; rfl; rfl) | (apply TriM.qYes 2; rfl; rfl; rfl; with_reducible rfl)); kernel_rfl; rfl; rfl; (intro F K hK; apply o_move; rfl; rfl; exact hK))
    rcases Nat.eq_zero_or_pos i with hi0 | hi0
    · ((with_reducible apply TriM.setb 28 (false)); (case h => rfl); (case hi => exact decide_eq_false (by omega)))
      ((apply TriM.qNo (c := false) 3; (case ho => rfl); (case hg => rfl); (case hyl => rfl); (case hb => with_reducible rfl); (case hc => rfl); (case hB => kernel_rfl); (case hd => rfl); (case hn => rfl)); (apply TriM.qNo (c := false) 4; (case ho => rfl); (case hg => rfl); (case hyl => rfl); (case hb => with_reducible rfl); (case hc => rfl); (case hB => kernel_rfl); (case hd => rfl); (case hn => rfl)); (apply TriM.qNo (c := false) 5; (case ho => rfl); (case hg => rfl); (case hyl => rfl); (case hb => with_reducible rfl); (case hc => rfl); (case hB => kernel_rfl); (case hd => rfl); (case hn => rfl)); (apply TriM.qNo (c := false) 6; (case ho => rfl); (case hg => rfl); (case hyl => rfl); (case hb => with_reducible rfl); (case hc => rfl); (case hB => kernel_rfl); (case hd => rfl); (case hn => rfl)); (apply TriM.qNo (c := false) 7; (case ho => rfl); (case hg => rfl); (case hyl => rfl); (case hb => with_reducible rfl); (case hc => rfl); (case hB => kernel_rfl); (case hd => rfl); (case hn => rfl)); (apply TriM.qNo (c := false) 8; (case ho => rfl); (case hg => rfl); (case hyl => rfl); (case hb => with_reducible rfl); (case hc => rfl); (case hB => kernel_rfl); (case hd => rfl); (case hn => rfl)); (apply TriM.qNo (c := false) 9; (case ho => rfl); (case hg => rfl); (case hyl => rfl); (case hb => with_reducible rfl); (case hc => rfl); (case hB => kernel_rfl); (case hd => rfl); (case hn => rfl)); (apply TriM.qNo (c := false) 10; (case ho => rfl); (case hg => rfl); (case hyl => rfl); (case hb => with_reducible rfl); (case hc => rfl); (case hB => kernel_rfl); (case hd => rfl); (case hn => rfl)); (apply TriM.qNo (c := false) 11; (case ho => rfl); (case hg => rfl); (case hyl => rfl); (case hb => with_reducible rfl); (case hc => rfl); (case hB => kernel_rfl); (case hd => rfl); (case hn => rfl)); (apply TriM.qNo (c := false) 12; (case ho => rfl); (case hg => rfl); (case hyl => rfl); (case hb => with_reducible rfl); (case hc => rfl); (case hB => kernel_rfl); (case hd => rfl); (case hn => rfl)); (apply TriM.qNo (c := false) 13; (case ho => rfl); (case hg => rfl); (case hyl => rfl); (case hb => with_reducible rfl); (case hc => rfl); (case hB => kernel_rfl); (case hd => rfl); (case hn => rfl)); (apply TriM.qNoU 14; (case ho => rfl); (case hg => rfl); (case hyu => rfl); (case hB => kernel_rfl); (case hd => rfl); (case hn => rfl)); (apply TriM.qNoU 15; (case ho => rfl); (case hg => rfl); (case hyu => rfl); (case hB => kernel_rfl); (case hd => rfl); (case hn => rfl)); (apply TriM.qNoU 16; (case ho => rfl); (case hg => rfl); (case hyu => rfl); (case hB => kernel_rfl); (case hd => rfl); (case hn => rfl)); (apply TriM.qNoU 17; (case ho => rfl); (case hg => rfl); (case hyu => rfl); (case hB => kernel_rfl); (case hd => rfl); (case hn => rfl)); (apply TriM.qNoU 18; (case ho => rfl); (case hg => rfl); (case hyu => rfl); (case hB => kernel_rfl); (case hd => rfl); (case hn => rfl)); (apply TriM.qNoU 19; (case ho => rfl); (case hg => rfl); (case hyu => rfl); (case hB => kernel_rfl); (case hd => rfl); (case hn => rfl)); (apply TriM.qNoU 20; (case ho => rfl); (case hg => rfl); (case hyu => rfl); (case hB => kernel_rfl); (case hd => rfl); (case hn => rfl)); (apply TriM.qNo (c := false) 21; (case ho => rfl); (case hg => rfl); (case hyl => rfl); (case hb => with_reducible rfl); (case hc => rfl); (case hB => kernel_rfl); (case hd => rfl); (case hn => rfl)); (first | (apply TriM.q 22; rfl; rfl) | (apply TriM.qYes 22; rfl; rfl; rfl; with_reducible rfl)); kernel_rfl; rfl; rfl; (intro F K hK; apply o_pickF; (iterate 4 rfl); exact hK))
      (apply TriM.nil; (case hr => kernel_rfl); (try dsimp only [List.cons_append, List.nil_append]))
      (refine Tri.thenN ?_; apply TriR.condF; rfl; rfl; refine TriR.skip (Tri.blockN (Tri.thenN (TriR.region ?_))); apply TriR.op; rfl; rfl; apply o_add64; rfl; rfl; rfl; (omega); apply TriR.op; rfl; rfl; apply o_move; rfl; rfl; refine TriR.nil (Tri.thenN ?_))
      ((with_reducible apply Tri.seti 15 (((i + 1 : Nat) : Int))); (case h => rfl); (case hi => omega))
      (apply Tri.again (y := ⟨i + 1, hil'⟩); (case p => ((try dsimp only); (repeat (first | exact Pulls.nil | (apply Pulls.cons; (case a => (first | ((repeat (first | with_reducible exact Gv.Pull.head | with_reducible apply Gv.Pull.tail)); done) | (repeat (first | exact Gv.Pull.head | apply Gv.Pull.tail))))))))); (case hm => ((try dsimp only); omega)); (try dsimp only))
      (repeat (first | exact trivial | refine And.intro (by rfl) ?_))
    · obtain ⟨p, hp⟩ : ∃ p, p = l.getD (i - 1) ent0 := ⟨_, rfl⟩
      obtain ⟨hls, hme⟩ := hlk i hi0 hil
      rw [← hp, ← hx] at hls hme
      have hi1 : i - 1 < l.length := by omega
      have hP8 : ((EL l).drop ((i - 1) * 8)).take 8 = entL p := by rw [hp]; exact EL_eight l (i - 1) hi1
      have hK2 : ((EL l).drop ((i - 1) * 8 + 0)).take 2 = keyL p.key := by
        have e : ((EL l).drop ((i - 1) * 8)).take 2 = (((EL l).drop ((i - 1) * 8)).take 8).take 2 := by rw [List.take_take]; rfl
        rw [Nat.add_zero, e, hP8]; rfl
      have hj1 : (i : Int) - 1 = ((i - 1 : Nat) : Int) := by omega
      have hl1 : (i - 1) * 8 < (EL l).length := by rw [hEl]; omega
      ((with_reducible apply TriM.setb 28 (true)); (case h => rfl); (case hi => exact decide_eq_true (by omega)))
      ((first | (apply TriM.q 3; rfl; rfl) | (apply TriM.qYes 3; rfl; rfl; rfl; with_reducible rfl)); kernel_rfl; rfl; rfl; (intro F K hK; apply o_move; rfl; rfl; exact hK); (first | (apply TriM.q 4; rfl; rfl) | (apply TriM.qYes 4; rfl; rfl; rfl; with_reducible rfl)); kernel_rfl; rfl; rfl; (intro F K hK; apply o_move; rfl; rfl; exact hK); (first | (apply TriM.q 5; rfl; rfl) | (apply TriM.qYes 5; rfl; rfl; rfl; with_reducible rfl)); kernel_rfl; rfl; rfl; (intro F K hK; apply o_sub64; rfl; rfl; rfl; (omega); exact hK))
      ((first | (apply TriM.q 6; (case ho => rfl); (case hg => rfl)) | (apply TriM.qYes 6; (case ho => rfl); (case hg => rfl); (case hyl => rfl); (case hb => with_reducible rfl))); (case hB => kernel_rfl); (case hd => rfl); (case hn => rfl); (case h => (intro F K hK; (try dsimp only [List.cons_append, List.nil_append]); (apply o_ixW (j := i - 1); (case hx => rfl); (case hy => rfl); (case hr => exact rdw_many (by (with_reducible repeat constructor)) mL); (case hj => exact hj1); (case hlt => exact hi1); (case hl => exact hl1); (case hn => rfl)); exact hK)))
      ((first | (apply TriM.q 7; rfl; rfl) | (apply TriM.qYes 7; rfl; rfl; rfl; with_reducible rfl)); kernel_rfl; rfl; rfl; (intro F K hK; apply o_fieldE; rfl; rfl; exact hK))
      ((first | (apply TriM.q 8; (case ho => rfl); (case hg => rfl)) | (apply TriM.qYes 8; (case ho => rfl); (case hg => rfl); (case hyl => rfl); (case hb => with_reducible rfl))); (case hB => kernel_rfl); (case hd => rfl); (case hn => rfl); (case h => (intro F K hK; (try dsimp only [List.cons_append, List.nil_append]); (apply o_loadAggW; (case hx => rfl); (case hr => exact rdw_many (by (with_reducible repeat constructor)) mL); (case hv => exact hK2); (case hl => rfl); (case hn => rfl)); exact hK)))
      ((first | (apply TriM.q 9; rfl; rfl) | (apply TriM.qYes 9; rfl; rfl; rfl; with_reducible rfl)); kernel_rfl; rfl; rfl; (intro F K hK; apply o_fieldAddr; rfl; rfl; exact hK))
      ((first | (apply TriM.q 10; (case ho => rfl); (case hg => rfl)) | (apply TriM.qYes 10; (case ho => rfl); (case hg => rfl); (case hyl => rfl); (case hb => with_reducible rfl))); (case hB => kernel_rfl); (case hd => rfl); (case hn => rfl); (case h => (intro F K hK; (try dsimp only [List.cons_append, List.nil_append]); (apply o_loadAgg (ys := keyL x.key); (case hx => rfl); (case p => (with_reducible repeat constructor)); (case hv => rfl); (case hl => rfl); (case hn => rfl)); exact hK)))
      ((first | (apply TriM.q 11; (case ho => rfl); (case hg => rfl)) | (apply TriM.qYes 11; (case ho => rfl); (case hg => rfl); (case hyl => rfl); (case hb => with_reducible rfl))); (case hB => kernel_rfl); (case hd => rfl); (case hn => rfl); (case h => (intro F K hK; (try dsimp only [List.cons_append, List.nil_append]); apply o_callV (hs := node_Less p.key x.key); (case hargs => (repeat first | exact evs.nil | (apply evs.cons; case a => rfl))); (case hpre => exact fun _ _ => trivial); (case hn => rfl); exact hK)))
      ((first | (apply TriM.q 12; rfl; rfl) | (apply TriM.qYes 12; rfl; rfl; rfl; with_reducible rfl)); kernel_rfl; rfl; rfl; (intro F K hK; apply o_not; rfl; rfl; exact hK); (first | (apply TriM.q 13; rfl; rfl) | (apply TriM.qYes 13; rfl; rfl; rfl; with_reducible rfl)); kernel_rfl; rfl; rfl; (intro F K hK; apply o_move; rfl; rfl; exact hK))
      ((with_reducible apply TriM.setb 39 (false)); (case h => rfl); (case hi => (rw [hls]; rfl)))
      ((first | (apply TriM.q 14; rfl; rfl) | (apply TriM.qYes 14; rfl; rfl; rfl; with_reducible rfl)); kernel_rfl; rfl; rfl; (intro F K hK; apply o_move; rfl; rfl; exact hK); (first | (apply TriM.q 15; rfl; rfl) | (apply TriM.qYes 15; rfl; rfl; rfl; with_reducible rfl)); kernel_rfl; rfl; rfl; (intro F K hK; apply o_move; rfl; rfl; exact hK); (first | (apply TriM.q 16; rfl; rfl) | (apply TriM.qYes 16; rfl; rfl; rfl; with_reducible rfl)); kernel_rfl; rfl; rfl; (intro F K hK; apply o_sub64; rfl; rfl; rfl; (omega); exact hK))
      ((first | (apply TriM.q 17; (case ho => rfl); (case hg => rfl)) | (apply TriM.qYes 17; (case ho => rfl); (case hg => rfl); (case hyl => rfl); (case hb => with_reducible rfl))); (case hB => kernel_rfl); (case hd => rfl); (case hn => rfl); (case h => (intro F K hK; (try dsimp only [List.cons_append, List.nil_append]); (apply o_ixW (j := i - 1); (case hx => rfl); (case hy => rfl); (case hr => exact rdw_many (by (with_reducible repeat constructor)) mL); (case hj => exact hj1); (case hlt => exact hi1); (case hl => exact hl1); (case hn => rfl)); exact hK)))
      ((first | (apply TriM.q 18; (case ho => rfl); (case hg => rfl)) | (apply TriM.qYes 18; (case ho => rfl); (case hg => rfl); (case hyl => rfl); (case hb => with_reducible rfl))); (case hB => kernel_rfl); (case hd => rfl); (case hn => rfl); (case h => (intro F K hK; (try dsimp only [List.cons_append, List.nil_append]); (apply o_loadAggW; (case hx => rfl); (case hr => exact rdw_many (by (with_reducible repeat constructor)) mL); (case hv => exact hP8); (case hl => rfl); (case hn => rfl)); exact hK)))
      ((first | (apply TriM.q 19; (case ho => rfl); (case hg => rfl)) | (apply TriM.qYes 19; (case ho => rfl); (case hg => rfl); (case hyl => rfl); (case hb => with_reducible rfl))); (case hB => kernel_rfl); (case hd => rfl); (case hn => rfl); (case h => (intro F K hK; (try dsimp only [List.cons_append, List.nil_append]); (apply o_loadAll (cs := entL x); (case hx => rfl); (case p => (with_reducible repeat constructor)); (case hl => rfl); (case hn => rfl)); exact hK)))
      ((first | (apply TriM.q 20; (case ho => rfl); (case hg => rfl)) | (apply TriM.qYes 20; (case ho => rfl); (case hg => rfl); (case hyl => rfl); (case hb => with_reducible rfl))); (case hB => kernel_rfl); (case hd => rfl); (case hn => rfl); (case h => (intro F K hK; (try dsimp only [List.cons_append, List.nil_append]); apply o_callV (hs := tree_meets p x); (case hargs => (repeat first | exact evs.nil | (apply evs.cons; case a => rfl))); (case hpre => exact fun _ _ => trivial); (case hn => rfl); exact hK)))
      ((first | (apply TriM.q 21; rfl; rfl) | (apply TriM.qYes 21; rfl; rfl; rfl; with_reducible rfl)); kernel_rfl; rfl; rfl; (intro F K hK; apply o_pickF; (iterate 4 rfl); exact hK); (first | (apply TriM.q 22; rfl; rfl) | (apply TriM.qYes 22; rfl; rfl; rfl; with_reducible rfl)); kernel_rfl; rfl; rfl; (intro F K hK; apply o_pickT; (iterate 4 rfl); exact hK))
      ((with_reducible apply TriM.setb 48 (false)); (case h => rfl); (case hi => exact hme))
      (apply TriM.nil; (case hr => kernel_rfl); (try dsimp only [List.cons_append, List.nil_append]))
      (refine Tri.thenN ?_; apply TriR.condF; rfl; rfl; refine TriR.skip (Tri.blockN (Tri.thenN (TriR.region ?_))); apply TriR.op; rfl; rfl; apply o_add64; rfl; rfl; rfl; (omega); apply TriR.op; rfl; rfl; apply o_move; rfl; rfl; refine TriR.nil (Tri.thenN ?_))
      ((with_reducible apply Tri.seti 15 (((i + 1 : Nat) : Int))); (case h => rfl); (case hi => omega))
      (apply Tri.again (y := ⟨i + 1, hil'⟩); (case p => ((try dsimp only); (repeat (first | exact Pulls.nil | (apply Pulls.cons; (case a => (first | ((repeat (first | with_reducible exact Gv.Pull.head | with_reducible apply Gv.Pull.tail)); done) | (repeat (first | exact Gv.Pull.head | apply Gv.Pull.tail))))))))); (case hm => ((try dsimp only); omega)); (try dsimp only))
      (repeat (first | exact trivial | refine And.intro (by rfl) ?_))
  · ((with_reducible refine TriR.exit (Tri.thenE (Tri.thenE (Tri.blockE (Tri.thenN (TriR.seq (TriR.region ?_))))))); apply TriR.op; rfl; rfl)
    (apply o_alloc; (case hn => rfl); intro b8)
    (refine TriR.nil (Tri.thenN (TriR.seq (TriR.seq (TriR.region ?_)))); apply TriR.op; rfl; rfl; apply o_move; rfl; rfl; apply TriR.op; rfl; rfl)
    (apply o_callR (hs := slices_ChunkE A l.length c); (case hargs => (repeat first | exact evs.nil | (apply evs.cons; case a => rfl))); (case hpre => exact fun _ _ => trivial); (case hn => rfl))
    rintro r2 H2 ⟨b2, b3, rfl, rfl⟩
    (try dsimp only [List.cons_append, List.nil_append])
    (refine TriR.nil (Tri.thenN (TriR.block ?_)))
    have hxl : (chunksE A l.length).length = (l.length + 6) / 7 := by simp [chunksE]
    have hll := leavesN_length l
    (with_reducible apply Tri.ownNil 33 4)
    apply Tri.noneM
    ((with_reducible apply Tri.eqA (A := own 33 4 (.slice none 0 0) 0 []) (B := own 33 4 (.slice none ([] : List (Value × Value × Value)).length 0) ([] : List (Value × Value × Value)).length (NDL true []))); (case p => (with_reducible repeat constructor)); (case e => rfl))
    ((with_reducible apply Tri.eqA (A := manyRd []) (B := manyRd (RDS [] ((leavesN l).take 0)))); (case p => (with_reducible repeat constructor)); (case e => rfl))
    ((with_reducible apply Tri.eqA (A := blk b8 _ _) (B := blk b8 28 [.slice none ([] : List (Value × Value × Value)).length 0])); (case p => (with_reducible repeat constructor)); (case e => rfl))
    have hs0 : shp [] := fun v hv => by cases hv
    have hz0 : ([] : List (Value × Value × Value)).length = 0 := rfl
    refine TriR.range (α := Σ' (k : Nat) (_ : Option Addr) (_ : Nat) (V3 : List (Value × Value × Value)), k ≤ (l.length + 6) / 7 ∧ V3.length = k ∧ shp V3) (β := Empty) (γ := Unit) (fun x => x.1)
      (fun x => [blk b8 28 [.slice x.2.1 x.2.2.2.1.length x.2.2.1], own 33 4 (.slice x.2.1 x.2.2.2.1.length x.2.2.1) x.2.2.2.1.length (NDL true x.2.2.2.1), manyRd (RDS x.2.2.2.1 ((leavesN l).take x.1)), manyRd lv]) ⟨0, none, 0, [], Nat.zero_le _, hz0, hs0⟩ (fun y => nomatch y) (fun y => nomatch y)
      (fun x _ => [(8, .pointer (some ⟨b8, 0, none⟩)), (9, .slice (A.map (·.add (x.1 * 7 * 8))) (min 7 (l.length - x.1 * 7)) (min 7 (l.length - x.1 * 7)))])
      (fun x _ => [blk b8 28 [.slice x.2.1 x.2.2.2.1.length x.2.2.1], own 33 4 (.slice x.2.1 x.2.2.2.1.length x.2.2.1) x.2.2.2.1.length (NDL true x.2.2.2.1), manyRd (RDS x.2.2.2.1 ((leavesN l).take x.1)), manyRd lv])
      (chunk_iterE A l.length c b2 b3 ⟨hmc, by omega⟩) rfl rfl (by (repeat first | with_reducible constructor | constructor)) ?_ ?_ ?_ ?_ ?_ ?_
    · intro y hy
      obtain ⟨k, _, rfl⟩ := List.mem_map.1 hy
      rfl
    · intro q hq
      simp at hq
      subst hq
      rfl
    · intro lp x vs hvs hq
      obtain ⟨_, rfl⟩ := chunksE_of hvs
      simp only [zipL]
      (try dsimp only [List.cons_append, List.nil_append])
      (refine TriR.region ?_; apply TriR.op; rfl; rfl; apply o_assign; rfl; rfl; refine TriR.nil (Tri.thenN ?_))
      (apply Tri.reach (y := ()); (case hL => ((try dsimp only); (repeat (first | exact trivial | refine And.intro (by rfl) ?_)))); (case p => ((try dsimp only); (repeat (first | exact Pulls.nil | (apply Pulls.cons; (case a => (first | ((repeat (first | with_reducible exact Gv.Pull.head | with_reducible apply Gv.Pull.tail)); done) | (repeat (first | exact Gv.Pull.head | apply Gv.Pull.tail))))))))))
    · rintro lp ⟨k, A3, c3, V3, hk, hV3, hW3⟩ vs hvs z hq
      obtain ⟨hk1, _⟩ := chunksE_of hvs
      (try dsimp only at hk1)
      obtain ⟨e, he⟩ : ∃ e, e = min 7 (l.length - k * 7) := ⟨_, rfl⟩
      have hlf : leafN l k = ⟨cutL l (k * 7) (k * 7 + e), [], []⟩ := by rw [leafN, ← he]
      have hce : (cutL l (k * 7) (k * 7 + e)).length = e := by rw [cutL_len _ _ _ (by omega)]; omega
      have hxe : (EL (cutL l (k * 7) (k * 7 + e))).length = e * 8 := EL_lens _ hce
      have hkc : k < (l.length + 6) / 7 := by omega
      (try dsimp only [List.cons_append, List.nil_append])
      rw [← he]
      (refine TriR.block ?_)
      ((first | with_reducible apply Tri.mix [manyRd lv] | (apply TriR.mix [manyRd lv]; (case hnd => rfl))); (case p => (repeat first | with_reducible constructor | constructor)); (dsimp only [List.length]))
      ((first | (apply TriM.q 1; rfl; rfl) | (apply TriM.qYes 1; rfl; rfl; rfl; with_reducible rfl)); kernel_rfl; rfl; rfl; (intro F K hK; apply o_move; rfl; rfl; exact hK))
      (apply TriM.a2 0 2; (case hoi => rfl); (case hoj => rfl); (case hgi => rfl); (case hgj => rfl); (case hr => kernel_rfl); (all_goals (try dsimp only [List.cons_append, List.nil_append])))
      · (apply o_load; (case hx => rfl); (case p => (with_reducible repeat constructor)); (case hv => rfl); (case hn => rfl))
        (apply TriM.back; (case p => (repeat first | with_reducible constructor | constructor)))
        (apply TriM.a 2; (case ho => rfl); (case hg => rfl); (case hr => kernel_rfl); (try dsimp only [List.cons_append, List.nil_append]))
        (apply o_callR (hs := slices_CloneEntry (.slice (A.map (·.add (k * 7 * 8))) e e) e (EL (cutL l (k * 7) (k * 7 + e))) hxe (EL_ones _) (by omega)); (case hargs => (repeat first | exact evs.nil | (apply evs.cons; case a => rfl))); (case hpre => exact fun w' hw' => rd_cutE (rdw_many (by (with_reducible repeat constructor)) mL w' hw') rfl (by omega) (by omega)); (case hn => rfl))
        rintro u1 H1 rfl
        (try dsimp only [List.cons_append, List.nil_append])
        (refine Tri.shape (e := 100) (size := 8) (v := u1) (by (with_reducible repeat constructor)) ?_; rintro ⟨A4, c4, rfl⟩)
        (apply TriM.back; (case p => (repeat first | with_reducible constructor | constructor)))
        ((first | (apply TriM.q 3; (case ho => rfl); (case hg => rfl)) | (apply TriM.qYes 3; (case ho => rfl); (case hg => rfl); (case hyl => rfl); (case hb => with_reducible rfl))); (case hB => kernel_rfl); (case hd => rfl); (case hn => rfl); (case h => (intro F K hK; (try dsimp only [List.cons_append, List.nil_append]); (apply o_build (ys := ndLL true (.slice A4 e c4) (.slice none 0 0) (.slice none 0 0)); (case hp => (repeat first | exact pev.nil | (apply pev.cons; case a => rfl))); (case hf => rfl); (case hn => rfl)); exact hK)))
        (apply TriM.a 4; (case ho => rfl); (case hg => rfl); (case hr => kernel_rfl); (try dsimp only [List.cons_append, List.nil_append]))
        (apply o_litSl (ys := ndLL true (.slice A4 e c4) (.slice none 0 0) (.slice none 0 0)); (case hp => (repeat first | exact pev.nil | (apply pev.cons; case a => rfl))); (case hm => rfl); (case hf => rfl); (case hn => rfl); intro vl)
        (apply TriM.back; (case p => (repeat first | with_reducible constructor | constructor)))
        (apply TriM.a 5; (case ho => rfl); (case hg => rfl); (case hr => kernel_rfl); (try dsimp only [List.cons_append, List.nil_append]))
        (apply o_append (m2 := 1) (news := ndLL true (.slice A4 e c4) (.slice none 0 0) (.slice none 0 0)); (case hx => rfl); (case hy => rfl); (case p => (with_reducible repeat constructor)); (case hr => exact rdw_own (v := vl) (by (with_reducible repeat constructor))); (case hl => rfl); (case h1 => exact ndLL_one true A4 none none _ c4 0 0 0 0); (case hb => omega); (case hn => rfl))
        intro vr
        (refine Tri.shape (e := 33) (size := 4) (v := vr) (by (with_reducible repeat constructor)) ?_; rintro ⟨A6, c6, rfl⟩)
        (apply TriM.back; (case p => (repeat first | with_reducible constructor | constructor)))
        (apply TriM.a 6; (case ho => rfl); (case hg => rfl); (case hr => kernel_rfl); (try dsimp only [List.cons_append, List.nil_append]))
        (apply o_store; (case hx => rfl); (case hy => rfl); (case h1 => rfl); (case p => (with_reducible repeat constructor)); (case hi => exact (by decide : 0 < 1)))
        (apply TriM.back; (case p => (repeat first | with_reducible constructor | constructor)))
        (apply TriM.nil; (case hr => kernel_rfl); (try dsimp only [List.cons_append, List.nil_append]))
        (refine Tri.blockN ?_)
        (with_reducible apply Tri.ownNil 98 2)
        (with_reducible apply Tri.ownNil 3 1)
        refine Tri.joinS (l := RDS V3 ((leavesN l).take k)) (e := 100) (size := 8) (v := .slice A4 e c4) (by (with_reducible repeat constructor)) (by (with_reducible repeat constructor)) ?_
        refine Tri.joinS (l := RDS V3 ((leavesN l).take k) ++ [_]) (e := 98) (size := 2) (v := .slice none 0 0) (by (with_reducible repeat constructor)) (by (with_reducible repeat constructor)) ?_
        refine Tri.joinS (l := RDS V3 ((leavesN l).take k) ++ [_] ++ [_]) (e := 3) (size := 1) (v := .slice none 0 0) (by (with_reducible repeat constructor)) (by (with_reducible repeat constructor)) ?_
        obtain ⟨V4, hV4⟩ : ∃ V4, V4 = V3 ++ [((Value.slice A4 e c4 : Value), (Value.slice none 0 0 : Value), (Value.slice none 0 0 : Value))] := ⟨_, rfl⟩
        have hl4 : V4.length = V3.length + 1 := by rw [hV4, List.length_append]; rfl
        have hn4 : NDL true V3 ++ ndLL true (.slice A4 e c4) (.slice none 0 0) (.slice none 0 0) = NDL true V4 := by rw [hV4, NDL_app]; rfl
        have hmr : RDS V3 ((leavesN l).take k) ++ [(.slice A4 e c4, e, EL (cutL l (k * 7) (k * 7 + e)))] ++ [(.slice none 0 0, 0, [])] ++ [(.slice none 0 0, 0, [])] = RDS V4 ((leavesN l).take (k + 1)) := by
          rw [hV4, leavesN_take l hkc, RDS_app _ _ _ _ (by rw [hV3, List.length_take, hll]; omega), hlf]
          simp only [RDS, List.append_assoc, List.cons_append, List.nil_append, hce, List.length_nil]
          rfl
        have hj4 : k + 1 ≤ (l.length + 6) / 7 := hkc
        have hV4l : V4.length = k + 1 := by rw [hl4, hV3]
        have hW4 : shp V4 := fun v hv => by
          rw [hV4] at hv
          rcases List.mem_append.1 hv with q | q
          · exact hW3 v q
          · rw [List.mem_singleton.1 q]; exact ⟨_, _, _, _, _, _, _, _, _, rfl⟩
        ((with_reducible apply Tri.eqA (A := manyRd (RDS V3 ((leavesN l).take k) ++ [_] ++ [_] ++ [_])) (B := manyRd (RDS V4 ((leavesN l).take (k + 1))))); (case p => (with_reducible repeat constructor)); (case e => (rw [← hmr])))
        ((with_reducible apply Tri.eqA (A := own 33 4 (.slice A6 _ c6) _ _) (B := own 33 4 (.slice A6 V4.length c6) V4.length (NDL true V4))); (case p => (with_reducible repeat constructor)); (case e => (rw [hl4, hn4])))
        ((with_reducible apply Tri.eqA (A := blk b8 _ _) (B := blk b8 28 [.slice A6 V4.length c6])); (case p => (with_reducible repeat constructor)); (case e => (rw [hl4]; rfl)))
        (apply Tri.rdEnd (y := ⟨k + 1, A6, c6, V4, hj4, hV4l, hW4⟩); (case hk => rfl); (case p => ((try dsimp only [List.cons_append, List.nil_append]); (repeat first | with_reducible constructor | constructor))))
      · (apply o_callR (hs := slices_CloneEntry (.slice (A.map (·.add (k * 7 * 8))) e e) e (EL (cutL l (k * 7) (k * 7 + e))) hxe (EL_ones _) (by omega)); (case hargs => (repeat first | exact evs.nil | (apply evs.cons; case a => rfl))); (case hpre => exact fun w' hw' => rd_cutE (rdw_many (by (with_reducible repeat constructor)) mL w' hw') rfl (by omega) (by omega)); (case hn => rfl))
        rintro u1 H1 rfl
        (try dsimp only [List.cons_append, List.nil_append])
        (refine Tri.shape (e := 100) (size := 8) (v := u1) (by (with_reducible repeat constructor)) ?_; rintro ⟨A4, c4, rfl⟩)
        (apply TriM.back; (case p => (repeat first | with_reducible constructor | constructor)))
        ((first | (apply TriM.q 3; (case ho => rfl); (case hg => rfl)) | (apply TriM.qYes 3; (case ho => rfl); (case hg => rfl); (case hyl => rfl); (case hb => with_reducible rfl))); (case hB => kernel_rfl); (case hd => rfl); (case hn => rfl); (case h => (intro F K hK; (try dsimp only [List.cons_append, List.nil_append]); (apply o_build (ys := ndLL true (.slice A4 e c4) (.slice none 0 0) (.slice none 0 0)); (case hp => (repeat first | exact pev.nil | (apply pev.cons; case a => rfl))); (case hf => rfl); (case hn => rfl)); exact hK)))
        (apply TriM.a2 0 4; (case hoi => rfl); (case hoj => rfl); (case hgi => rfl); (case hgj => rfl); (case hr => kernel_rfl); (all_goals (try dsimp only [List.cons_append, List.nil_append])))
        · (apply o_load; (case hx => rfl); (case p => (with_reducible repeat constructor)); (case hv => rfl); (case hn => rfl))
          (apply TriM.back; (case p => (repeat first | with_reducible constructor | constructor)))
          (apply TriM.a 4; (case ho => rfl); (case hg => rfl); (case hr => kernel_rfl); (try dsimp only [List.cons_append, List.nil_append]))
          (apply o_litSl (ys := ndLL true (.slice A4 e c4) (.slice none 0 0) (.slice none 0 0)); (case hp => (repeat first | exact pev.nil | (apply pev.cons; case a => rfl))); (case hm => rfl); (case hf => rfl); (case hn => rfl); intro vl)
          (apply TriM.back; (case p => (repeat first | with_reducible constructor | constructor)))
          (apply TriM.a 5; (case ho => rfl); (case hg => rfl); (case hr => kernel_rfl); (try dsimp only [List.cons_append, List.nil_append]))
          (apply o_append (m2 := 1) (news := ndLL true (.slice A4 e c4) (.slice none 0 0) (.slice none 0 0)); (case hx => rfl); (case hy => rfl); (case p => (with_reducible repeat constructor)); (case hr => exact rdw_own (v := vl) (by (with_reducible repeat constructor))); (case hl => rfl); (case h1 => exact ndLL_one true A4 none none _ c4 0 0 0 0); (case hb => omega); (case hn => rfl))
          intro vr
          (refine Tri.shape (e := 33) (size := 4) (v := vr) (by (with_reducible repeat constructor)) ?_; rintro ⟨A6, c6, rfl⟩)
          (apply TriM.back; (case p => (repeat first | with_reducible constructor | constructor)))
          (apply TriM.a 6; (case ho => rfl); (case hg => rfl); (case hr => kernel_rfl); (try dsimp only [List.cons_append, List.nil_append]))
          (apply o_store; (case hx => rfl); (case hy => rfl); (case h1 => rfl); (case p => (with_reducible repeat constructor)); (case hi => exact (by decide : 0 < 1)))
          (apply TriM.back; (case p => (repeat first | with_reducible constructor | constructor)))
          (apply TriM.nil; (case hr => kernel_rfl); (try dsimp only [List.cons_append, List.nil_append]))
          (refine Tri.blockN ?_)
          (with_reducible apply Tri.ownNil 98 2)
          (with_reducible apply Tri.ownNil 3 1)
          refine Tri.joinS (l := RDS V3 ((leavesN l).take k)) (e := 100) (size := 8) (v := .slice A4 e c4) (by (with_reducible repeat constructor)) (by (with_reducible repeat constructor)) ?_
          refine Tri.joinS (l := RDS V3 ((leavesN l).take k) ++ [_]) (e := 98) (size := 2) (v := .slice none 0 0) (by (with_reducible repeat constructor)) (by (with_reducible repeat constructor)) ?_
          refine Tri.joinS (l := RDS V3 ((leavesN l).take k) ++ [_] ++ [_]) (e := 3) (size := 1) (v := .slice none 0 0) (by (with_reducible repeat constructor)) (by (with_reducible repeat constructor)) ?_
          obtain ⟨V4, hV4⟩ : ∃ V4, V4 = V3 ++ [((Value.slice A4 e c4 : Value), (Value.slice none 0 0 : Value), (Value.slice none 0 0 : Value))] := ⟨_, rfl⟩
          have hl4 : V4.length = V3.length + 1 := by rw [hV4, List.length_append]; rfl
          have hn4 : NDL true V3 ++ ndLL true (.slice A4 e c4) (.slice none 0 0) (.slice none 0 0) = NDL true V4 := by rw [hV4, NDL_app]; rfl
          have hmr : RDS V3 ((leavesN l).take k) ++ [(.slice A4 e c4, e, EL (cutL l (k * 7) (k * 7 + e)))] ++ [(.slice none 0 0, 0, [])] ++ [(.slice none 0 0, 0, [])] = RDS V4 ((leavesN l).take (k + 1)) := by
            rw [hV4, leavesN_take l hkc, RDS_app _ _ _ _ (by rw [hV3, List.length_take, hll]; omega), hlf]
            simp only [RDS, List.append_assoc, List.cons_append, List.nil_append, hce, List.length_nil]
            rfl
          have hj4 : k + 1 ≤ (l.length + 6) / 7 := hkc
          have hV4l : V4.length = k + 1 := by rw [hl4, hV3]
          have hW4 : shp V4 := fun v hv => by
            rw [hV4] at hv
            rcases List.mem_append.1 hv with q | q
            · exact hW3 v q
            · rw [List.mem_singleton.1 q]; exact ⟨_, _, _, _, _, _, _, _, _, rfl⟩
          ((with_reducible apply Tri.eqA (A := manyRd (RDS V3 ((leavesN l).take k) ++ [_] ++ [_] ++ [_])) (B := manyRd (RDS V4 ((leavesN l).take (k + 1))))); (case p => (with_reducible repeat constructor)); (case e => (rw [← hmr])))
          ((with_reducible apply Tri.eqA (A := own 33 4 (.slice A6 _ c6) _ _) (B := own 33 4 (.slice A6 V4.length c6) V4.length (NDL true V4))); (case p => (with_reducible repeat constructor)); (case e => (rw [hl4, hn4])))
          ((with_reducible apply Tri.eqA (A := blk b8 _ _) (B := blk b8 28 [.slice A6 V4.length c6])); (case p => (with_reducible repeat constructor)); (case e => (rw [hl4]; rfl)))
          (apply Tri.rdEnd (y := ⟨k + 1, A6, c6, V4, hj4, hV4l, hW4⟩); (case hk => rfl); (case p => ((try dsimp only [List.cons_append, List.nil_append]); (repeat first | with_reducible constructor | constructor))))
        · (apply o_litSl (ys := ndLL true (.slice A4 e c4) (.slice none 0 0) (.slice none 0 0)); (case hp => (repeat first | exact pev.nil | (apply pev.cons; case a => rfl))); (case hm => rfl); (case hf => rfl); (case hn => rfl); intro vl)
          (apply TriM.back; (case p => (repeat first | with_reducible constructor | constructor)))
          (apply TriM.a 0; (case ho => rfl); (case hg => rfl); (case hr => kernel_rfl); (try dsimp only [List.cons_append, List.nil_append]))
          (apply o_load; (case hx => rfl); (case p => (with_reducible repeat constructor)); (case hv => rfl); (case hn => rfl))
          (apply TriM.back; (case p => (repeat first | with_reducible constructor | constructor)))
          (apply TriM.a 5; (case ho => rfl); (case hg => rfl); (case hr => kernel_rfl); (try dsimp only [List.cons_append, List.nil_append]))
          (apply o_append (m2 := 1) (news := ndLL true (.slice A4 e c4) (.slice none 0 0) (.slice none 0 0)); (case hx => rfl); (case hy => rfl); (case p => (with_reducible repeat constructor)); (case hr => exact rdw_own (v := vl) (by (with_reducible repeat constructor))); (case hl => rfl); (case h1 => exact ndLL_one true A4 none none _ c4 0 0 0 0); (case hb => omega); (case hn => rfl))
          intro vr
          (refine Tri.shape (e := 33) (size := 4) (v := vr) (by (with_reducible repeat constructor)) ?_; rintro ⟨A6, c6, rfl⟩)
          (apply TriM.back; (case p => (repeat first | with_reducible constructor | constructor)))
          (apply TriM.a 6; (case ho => rfl); (case hg => rfl); (case hr => kernel_rfl); (try dsimp only [List.cons_append, List.nil_append]))
          (apply o_store; (case hx => rfl); (case hy => rfl); (case h1 => rfl); (case p => (with_reducible repeat constructor)); (case hi => exact (by decide : 0 < 1)))
          (apply TriM.back; (case p => (repeat first | with_reducible constructor | constructor)))
          (apply TriM.nil; (case hr => kernel_rfl); (try dsimp only [List.cons_append, List.nil_append]))
          (refine Tri.blockN ?_)
          (with_reducible apply Tri.ownNil 98 2)
          (with_reducible apply Tri.ownNil 3 1)
          refine Tri.joinS (l := RDS V3 ((leavesN l).take k)) (e := 100) (size := 8) (v := .slice A4 e c4) (by (with_reducible repeat constructor)) (by (with_reducible repeat constructor)) ?_
          refine Tri.joinS (l := RDS V3 ((leavesN l).take k) ++ [_]) (e := 98) (size := 2) (v := .slice none 0 0) (by (with_reducible repeat constructor)) (by (with_reducible repeat constructor)) ?_
          refine Tri.joinS (l := RDS V3 ((leavesN l).take k) ++ [_] ++ [_]) (e := 3) (size := 1) (v := .slice none 0 0) (by (with_reducible repeat constructor)) (by (with_reducible repeat constructor)) ?_
          obtain ⟨V4, hV4⟩ : ∃ V4, V4 = V3 ++ [((Value.slice A4 e c4 : Value), (Value.slice none 0 0 : Value), (Value.slice none 0 0 : Value))] := ⟨_, rfl⟩
          have hl4 : V4.length = V3.length + 1 := by rw [hV4, List.length_append]; rfl
          have hn4 : NDL true V3 ++ ndLL true (.slice A4 e c4) (.slice none 0 0) (.slice none 0 0) = NDL true V4 := by rw [hV4, NDL_app]; rfl
          have hmr : RDS V3 ((leavesN l).take k) ++ [(.slice A4 e c4, e, EL (cutL l (k * 7) (k * 7 + e)))] ++ [(.slice none 0 0, 0, [])] ++ [(.slice none 0 0, 0, [])] = RDS V4 ((leavesN l).take (k + 1)) := by
            rw [hV4, leavesN_take l hkc, RDS_app _ _ _ _ (by rw [hV3, List.length_take, hll]; omega), hlf]
            simp only [RDS, List.append_assoc, List.cons_append, List.nil_append, hce, List.length_nil]
            rfl
          have hj4 : k + 1 ≤ (l.length + 6) / 7 := hkc
          have hV4l : V4.length = k + 1 := by rw [hl4, hV3]
          have hW4 : shp V4 := fun v hv => by
            rw [hV4] at hv
            rcases List.mem_append.1 hv with q | q
            · exact hW3 v q
            · rw [List.mem_singleton.1 q]; exact ⟨_, _, _, _, _, _, _, _, _, rfl⟩
          ((with_reducible apply Tri.eqA (A := manyRd (RDS V3 ((leavesN l).take k) ++ [_] ++ [_] ++ [_])) (B := manyRd (RDS V4 ((leavesN l).take (k + 1))))); (case p => (with_reducible repeat constructor)); (case e => (rw [← hmr])))
          ((with_reducible apply Tri.eqA (A := own 33 4 (.slice A6 _ c6) _ _) (B := own 33 4 (.slice A6 V4.length c6) V4.length (NDL true V4))); (case p => (with_reducible repeat constructor)); (case e => (rw [hl4, hn4])))
          ((with_reducible apply Tri.eqA (A := blk b8 _ _) (B := blk b8 28 [.slice A6 V4.length c6])); (case p => (with_reducible repeat constructor)); (case e => (rw [hl4]; rfl)))
          (apply Tri.rdEnd (y := ⟨k + 1, A6, c6, V4, hj4, hV4l, hW4⟩); (case hk => rfl); (case p => ((try dsimp only [List.cons_append, List.nil_append]); (repeat first | with_reducible constructor | constructor))))
    · rintro D ⟨k, A3, c3, V3, hk, hV3, hW3⟩ hy
      have hkc : k = (l.length + 6) / 7 := by rw [← hxl]; exact hy
      have htk : (leavesN l).take k = leavesN l := List.take_of_length_le (by rw [hll]; omega)
      (try dsimp only [List.cons_append, List.nil_append])
      rw [htk]
      have hwl2 : v.S.W.length + 16 * (leavesN l).length ≤ 800000 := by rw [hll]; exact hwl
      have hxl2 : V3.length = (leavesN l).length := by rw [hV3, hkc, hll]
      have hst := view_stacked pv d v A3 c3 V3 (leavesN l) hv hxl2 (by rw [hll]; omega) hwl2 hW3 (leavesN_R hlR)
      obtain ⟨R0, hR0⟩ : ∃ R, R = stackN v (leavesN l) := ⟨_, rfl⟩
      have hR1 : loadN v l = R0 := hR0.symm
      rw [← hR0] at hst
      rw [hR1]
      (refine Tri.blockN (Tri.thenN (TriR.seq (TriR.region ?_))); apply TriR.op; rfl; rfl; apply o_move; rfl; rfl; apply TriR.op; rfl; rfl; apply o_load; rfl; (with_reducible repeat constructor); rfl; rfl; apply TriR.op; rfl; rfl)
      (apply o_callS (hs := hst); (case hargs => (repeat first | exact evs.nil | (apply evs.cons; case a => rfl))); (case p => (repeat first | with_reducible constructor | constructor)); (case hn => rfl))
      rintro r1 H1 ⟨rfl, rfl⟩
      (try dsimp only [List.cons_append, List.nil_append])
      (apply TriR.op; rfl; rfl; apply o_extract; rfl; rfl; rfl; apply TriR.op; rfl; rfl; apply o_extract; rfl; rfl; rfl; apply TriR.op; rfl; rfl)
      (apply o_storeAll (ys := [.int .i64 R0.2.1.1, .int .i64 (R0.2.1.2 : Int)]); (case hx => rfl); (case hy => rfl); (case p => (with_reducible repeat constructor)); (case hl => rfl); (case hc => rfl); (case h1 => exact two_int _ _))
      (apply TriR.op; rfl; rfl; apply o_assign; rfl; rfl; refine TriR.nil (Tri.thenN (TriR.ret ?_)))
      (apply Tri.finM1; (case p => (with_reducible repeat constructor)); (case hr => rfl); (case h => exact ResL.cons ((Res1.agg rfl (by (with_reducible repeat constructor)) (by rw [List.drop_zero]; exact List.take_of_length_le (Nat.le_of_eq (rfl : [Value.int .i64 R0.2.1.1, Value.int .i64 (R0.2.1.2 : Int)].length = 2))) (rfl : [Value.int .i64 R0.2.1.1, Value.int .i64 (R0.2.1.2 : Int)].length = 2))) (ResL.cons (Res1.tmp rfl) (ResL.nil))); (apply fin_R (Hn := [blk pv 194 (viewL d R0.1), DSK d R0.1.S, manyRd lv])); (case p => exact (by (repeat first | with_reducible constructor | constructor))); exact ⟨rfl, rfl⟩)
    · intro D y
      exact nomatch y
end Go.Proofs.Ytckdlfbbkemklaa
end
section
/- A disk as one atom: Flush, Image, Pages, Load, Crash. -/
namespace Go.Proofs.Ytckdlfbbkemklaa
open Go Go.RowKit Go.Gv
set_option linter.unusedVariables false
set_option linter.unusedSimpArgs false

theorem disk_PagesD (p : Nat) (S : DS) (hS : S.ok) : Gv.Spec Try.prog 95 #[.pointer (some ⟨p, 0, none⟩)] [DSK p S] (fun r H' => r = .int .i64 ((S.A.length / 256 : Nat) : Int) ∧ H' = [DSK p S]) := fun w0 w H hw => by
  obtain ⟨a, vw, W, hW, h1⟩ := dsk_open hw
  refine (disk_Pages p a S.A.length vw S.off S.till hS.1 w0 w _ h1).mono ?_
  intro e w' he
  cases e with
  | returned v =>
    obtain ⟨H', ⟨hr, rfl⟩, h2⟩ := he
    exact ⟨_, ⟨hr, rfl⟩, dsk_close hW h2⟩
  | panicked c => exact he.elim
  | outgrown => exact he.elim
/-- a disk of an image -/
def DS.of (l : List UInt8) : DS := ⟨l, [], false, -1⟩
/-- power goes, and is there again -/
def DS.cr (S : DS) (F : List (Bool × UInt8)) : DS := ⟨crashM S.A (S.W.map fun x => ⟨x.1, undef, x.2⟩) F, [], false, -1⟩
end Go.Proofs.Ytckdlfbbkemklaa
end
section
/- tree: Open: the walk. -/
namespace Go.Proofs.Ytckdlfbbkemklaa
open Go Go.RowKit Go.Gv
set_option linter.unusedVariables false
set_option linter.unusedSimpArgs false

/-- parts that stand side by side -/
def sideBy (place : Nat → Option (Nat × Nat)) : Nat → List (Nat × Value × List Value) → Prop
  | _, [] => True
  | off, x :: l => place x.1 = some (off, x.2.2.length) ∧ x.2.1.cells.toList = x.2.2 ∧ sideBy place (off + x.2.2.length) l
theorem fill_seq (place : Nat → Option (Nat × Nat)) : ∀ (l : List (Nat × Value × List Value)) (pre mid : List Value), sideBy place pre.length l → mid.length = (l.flatMap (·.2.2)).length →
    fillL place (pre ++ mid) (l.map fun x => (x.1, x.2.1)) = some (pre ++ l.flatMap (·.2.2))
  | [], pre, mid, _, h => by
    have : mid = [] := List.eq_nil_of_length_eq_zero (by simpa using h)
    rw [this]; rfl
  | x :: l, pre, mid, hs, h => by
    obtain ⟨h1, h2, h3⟩ := hs
    rw [List.flatMap_cons, List.length_append] at h
    rw [List.map_cons, fillL, h1]
    have e1 : Nat.beq x.2.1.cells.toList.length x.2.2.length = true := by rw [h2]; exact Nat.beq_refl _
    have e2 : Nat.ble (pre.length + x.2.2.length) (pre ++ mid).length = true := Nat.ble_eq_true_of_le (by rw [List.length_append]; omega)
    simp only [e1, e2, Bool.and_self, cond_true]
    rw [h2, List.take_left, List.drop_append, List.drop_eq_nil_of_le (by omega), Nat.add_sub_cancel_left, List.nil_append]
    have ih := fill_seq place l (pre ++ x.2.2) (mid.drop x.2.2.length) (by rw [List.length_append]; exact h3) (by rw [List.length_drop]; omega)
    rw [ih, List.flatMap_cons, List.append_assoc]
theorem view_fill (d : Nat) (v : VS) (hv : v.ok) :
    fillL (fun i => ([(0, 256), (256, 1), (257, 1), (258, 513), (771, 513)] : List (Nat × Nat))[i]?) (List.replicate 256 (.int .u32 0) ++ ([.pointer none, .int .u64 0, .int .i64 0] ++ (List.replicate 512 (.bool false) ++ ([.int .i64 0] ++ (List.replicate 512 (.bool false))))))
      [(0, tabV), (1, .pointer (some ⟨d, 0, none⟩)), (2, .int .u64 (v.gen : Int)), (3, bmV v.m), (4, bmV v.old)] = some (viewL d v) := by
  have h := fill_seq (fun i => ([(0, 256), (256, 1), (257, 1), (258, 513), (771, 513)] : List (Nat × Nat))[i]?)
    [(0, tabV, tabL), (1, .pointer (some ⟨d, 0, none⟩), [.pointer (some ⟨d, 0, none⟩)]), (2, .int .u64 (v.gen : Int), [.int .u64 (v.gen : Int)]), (3, bmV v.m, bmL v.m), (4, bmV v.old, bmL v.old)] []
    (List.replicate 256 (.int .u32 0) ++ ([.pointer none, .int .u64 0, .int .i64 0] ++ (List.replicate 512 (.bool false) ++ ([.int .i64 0] ++ (List.replicate 512 (.bool false)))))) ?_ ?_
  · rw [List.nil_append] at h
    refine h.trans ?_
    simp only [List.flatMap_cons, List.flatMap_nil, List.append_nil, List.nil_append, List.cons_append, viewL]
  · simp only [sideBy, tabL_length, bmL_len hv.m, bmL_len hv.o, List.length_cons, List.length_nil]
    refine ⟨rfl, ?_, rfl, rfl, rfl, rfl, rfl, ?_, rfl, ?_, trivial⟩ <;> rfl
  · simp only [List.flatMap_cons, List.flatMap_nil, List.append_nil, List.length_append, List.length_replicate, List.length_cons, List.length_nil, tabL_length, bmL_len hv.m, bmL_len hv.o]
set_option maxHeartbeats 8000000 in
theorem tree_Open (d : Nat) (v : VS) (hv : v.ok) (hm : rightM v.m = true) (ho : rightM v.old = true) (hp : v.m.p = ((v.S.A.length / 256 : Nat) : Int)) (hp2 : v.old.p = ((v.S.A.length / 256 : Nat) : Int)) :
    Gv.Spec Try.prog 66 #[tabV, .pointer (some ⟨d, 0, none⟩), .int .u64 (v.gen : Int), bmV v.m, bmV v.old] [DSK d v.S]
    (fun r H' => ∃ pv, r = .tuple #[.pointer (some ⟨pv, 0, none⟩), .int .i64 0] ∧ H' = [blk pv 194 (viewL d v), DSK d v.S]) := by
  refine Gv.Spec.of (fun w h0 hw => ?_)
  refine Calls.enter Try.func66 rfl rfl rfl hw ?_
  simp only [argSlots]
  (try dsimp only [List.cons_append, List.nil_append])
  (refine Tri.seq (Tri.region ?_); apply Tri.op; rfl)
  (first | (apply o_boxA; (case hx => rfl); (case hn => rfl); intro b5) | (apply o_box1; (case hx => rfl); (case h1 => rfl); (case hn => rfl); intro b5))
  (apply Tri.op; rfl)
  (first | (apply o_boxA; (case hx => rfl); (case hn => rfl); intro b8) | (apply o_box1; (case hx => rfl); (case h1 => rfl); (case hn => rfl); intro b8))
  (apply Tri.op; rfl)
  (first | (apply o_boxA; (case hx => rfl); (case hn => rfl); intro b9) | (apply o_box1; (case hx => rfl); (case h1 => rfl); (case hn => rfl); intro b9))
  (apply Tri.op; rfl; apply o_assign; rfl; rfl; apply Tri.op; rfl; apply o_assign; rfl; rfl; refine Tri.nil (Tri.thenN (Tri.seq (Tri.seq ?_))))
  ((first | with_reducible apply Tri.mix [blk b8 149 (bmL v.m), blk b9 149 (bmL v.old)] | (apply TriR.mix [blk b8 149 (bmL v.m), blk b9 149 (bmL v.old)]; (case hnd => rfl))); (case p => (repeat first | with_reducible constructor | constructor)); (dsimp only [List.length]))
  ((first | (apply TriM.q 0; rfl; rfl) | (apply TriM.qYes 0; rfl; rfl; rfl; with_reducible rfl)); kernel_rfl; rfl; rfl; (intro F K hK; apply o_move; rfl; rfl; exact hK); (first | (apply TriM.q 1; rfl; rfl) | (apply TriM.qYes 1; rfl; rfl; rfl; with_reducible rfl)); kernel_rfl; rfl; rfl; (intro F K hK; apply o_eqlN; rfl; rfl; rfl; exact hK); (first | (apply TriM.q 2; rfl; rfl) | (apply TriM.qYes 2; rfl; rfl; rfl; with_reducible rfl)); kernel_rfl; rfl; rfl; (intro F K hK; apply o_move; rfl; rfl; exact hK))
  ((with_reducible apply TriM.setb 14 (false)); (case h => rfl); (case hi => rfl))
  ((first | (apply TriM.q 3; (case ho => rfl); (case hg => rfl)) | (apply TriM.qYes 3; (case ho => rfl); (case hg => rfl); (case hyl => rfl); (case hb => with_reducible rfl))); (case hB => kernel_rfl); (case hd => rfl); (case hn => rfl); (case h => (intro F K hK; (try dsimp only [List.cons_append, List.nil_append]); (apply o_loadAll (cs := bmL v.m); (case hx => rfl); (case p => (with_reducible repeat constructor)); (case hl => exact bmL_len hv.m); (case hn => rfl)); exact hK)))
  ((first | (apply TriM.q 4; (case ho => rfl); (case hg => rfl)) | (apply TriM.qYes 4; (case ho => rfl); (case hg => rfl); (case hyl => rfl); (case hb => with_reducible rfl))); (case hB => kernel_rfl); (case hd => rfl); (case hn => rfl); (case h => (intro F K hK; (try dsimp only [List.cons_append, List.nil_append]); apply o_callV (hs := bm_Right v.m hv.m); (case hargs => (repeat first | exact evs.nil | (apply evs.cons; case a => rfl))); (case hpre => exact fun _ _ => trivial); (case hn => rfl); exact hK)))
  ((first | (apply TriM.q 5; rfl; rfl) | (apply TriM.qYes 5; rfl; rfl; rfl; with_reducible rfl)); kernel_rfl; rfl; rfl; (intro F K hK; apply o_not; rfl; rfl; exact hK); (first | (apply TriM.q 6; rfl; rfl) | (apply TriM.qYes 6; rfl; rfl; rfl; with_reducible rfl)); kernel_rfl; rfl; rfl; (intro F K hK; apply o_pickF; (iterate 4 rfl); exact hK); (first | (apply TriM.q 7; rfl; rfl) | (apply TriM.qYes 7; rfl; rfl; rfl; with_reducible rfl)); kernel_rfl; rfl; rfl; (intro F K hK; apply o_move; rfl; rfl; exact hK))
  ((with_reducible apply TriM.setb 19 (false)); (case h => rfl); (case hi => (rw [hm]; rfl)))
  ((first | (apply TriM.q 8; (case ho => rfl); (case hg => rfl)) | (apply TriM.qYes 8; (case ho => rfl); (case hg => rfl); (case hyl => rfl); (case hb => with_reducible rfl))); (case hB => kernel_rfl); (case hd => rfl); (case hn => rfl); (case h => (intro F K hK; (try dsimp only [List.cons_append, List.nil_append]); (apply o_loadAll (cs := bmL v.old); (case hx => rfl); (case p => (with_reducible repeat constructor)); (case hl => exact bmL_len hv.o); (case hn => rfl)); exact hK)))
  ((first | (apply TriM.q 9; (case ho => rfl); (case hg => rfl)) | (apply TriM.qYes 9; (case ho => rfl); (case hg => rfl); (case hyl => rfl); (case hb => with_reducible rfl))); (case hB => kernel_rfl); (case hd => rfl); (case hn => rfl); (case h => (intro F K hK; (try dsimp only [List.cons_append, List.nil_append]); apply o_callV (hs := bm_Right v.old hv.o); (case hargs => (repeat first | exact evs.nil | (apply evs.cons; case a => rfl))); (case hpre => exact fun _ _ => trivial); (case hn => rfl); exact hK)))
  ((first | (apply TriM.q 10; rfl; rfl) | (apply TriM.qYes 10; rfl; rfl; rfl; with_reducible rfl)); kernel_rfl; rfl; rfl; (intro F K hK; apply o_not; rfl; rfl; exact hK); (first | (apply TriM.q 11; rfl; rfl) | (apply TriM.qYes 11; rfl; rfl; rfl; with_reducible rfl)); kernel_rfl; rfl; rfl; (intro F K hK; apply o_pickF; (iterate 4 rfl); exact hK); (first | (apply TriM.q 12; rfl; rfl) | (apply TriM.qYes 12; rfl; rfl; rfl; with_reducible rfl)); kernel_rfl; rfl; rfl; (intro F K hK; apply o_move; rfl; rfl; exact hK))
  ((with_reducible apply TriM.setb 24 (false)); (case h => rfl); (case hi => (rw [ho]; rfl)))
  ((first | (apply TriM.q 13; rfl; rfl) | (apply TriM.qYes 13; rfl; rfl; rfl; with_reducible rfl)); kernel_rfl; rfl; rfl; (intro F K hK; apply o_fieldAddr; rfl; rfl; exact hK); (first | (apply TriM.q 14; rfl; rfl) | (apply TriM.qYes 14; rfl; rfl; rfl; with_reducible rfl)); kernel_rfl; rfl; rfl; (intro F K hK; (try dsimp only [List.cons_append, List.nil_append]); apply o_load; rfl; (with_reducible repeat constructor); rfl; rfl; exact hK); (first | (apply TriM.q 15; rfl; rfl) | (apply TriM.qYes 15; rfl; rfl; rfl; with_reducible rfl)); kernel_rfl; rfl; rfl; (intro F K hK; apply o_move; rfl; rfl; exact hK))
  (apply TriM.aY 16; (case ho => rfl); (case hg => rfl); (case hyl => rfl); (case hb => with_reducible rfl); (case hr => kernel_rfl); (try dsimp only [List.cons_append, List.nil_append]))
  (apply o_callS (hs := disk_PagesD d v.S hv.S); (case hargs => (repeat first | exact evs.nil | (apply evs.cons; case a => rfl))); (case p => (repeat first | with_reducible constructor | constructor)); (case hn => rfl))
  rintro r16 H16 ⟨rfl, rfl⟩
  (try dsimp only [List.cons_append, List.nil_append])
  (apply TriM.back; (case p => (repeat first | with_reducible constructor | constructor)))
  ((first | (apply TriM.q 17; rfl; rfl) | (apply TriM.qYes 17; rfl; rfl; rfl; with_reducible rfl)); kernel_rfl; rfl; rfl; (intro F K hK; apply o_neq; rfl; rfl; rfl; exact hK); (first | (apply TriM.q 18; rfl; rfl) | (apply TriM.qYes 18; rfl; rfl; rfl; with_reducible rfl)); kernel_rfl; rfl; rfl; (intro F K hK; apply o_pickF; (iterate 4 rfl); exact hK); (first | (apply TriM.q 19; rfl; rfl) | (apply TriM.qYes 19; rfl; rfl; rfl; with_reducible rfl)); kernel_rfl; rfl; rfl; (intro F K hK; apply o_move; rfl; rfl; exact hK))
  ((with_reducible apply TriM.setb 31 (false)); (case h => rfl); (case hi => exact decide_eq_false (fun q => q hp)))
  ((first | (apply TriM.q 20; rfl; rfl) | (apply TriM.qYes 20; rfl; rfl; rfl; with_reducible rfl)); kernel_rfl; rfl; rfl; (intro F K hK; apply o_fieldAddr; rfl; rfl; exact hK); (first | (apply TriM.q 21; rfl; rfl) | (apply TriM.qYes 21; rfl; rfl; rfl; with_reducible rfl)); kernel_rfl; rfl; rfl; (intro F K hK; (try dsimp only [List.cons_append, List.nil_append]); apply o_load; rfl; (with_reducible repeat constructor); rfl; rfl; exact hK); (first | (apply TriM.q 22; rfl; rfl) | (apply TriM.qYes 22; rfl; rfl; rfl; with_reducible rfl)); kernel_rfl; rfl; rfl; (intro F K hK; apply o_move; rfl; rfl; exact hK))
  (apply TriM.aY 23; (case ho => rfl); (case hg => rfl); (case hyl => rfl); (case hb => with_reducible rfl); (case hr => kernel_rfl); (try dsimp only [List.cons_append, List.nil_append]))
  (apply o_callS (hs := disk_PagesD d v.S hv.S); (case hargs => (repeat first | exact evs.nil | (apply evs.cons; case a => rfl))); (case p => (repeat first | with_reducible constructor | constructor)); (case hn => rfl))
  rintro r23 H23 ⟨rfl, rfl⟩
  (try dsimp only [List.cons_append, List.nil_append])
  (apply TriM.back; (case p => (repeat first | with_reducible constructor | constructor)))
  ((first | (apply TriM.q 24; rfl; rfl) | (apply TriM.qYes 24; rfl; rfl; rfl; with_reducible rfl)); kernel_rfl; rfl; rfl; (intro F K hK; apply o_neq; rfl; rfl; rfl; exact hK); (first | (apply TriM.q 25; rfl; rfl) | (apply TriM.qYes 25; rfl; rfl; rfl; with_reducible rfl)); kernel_rfl; rfl; rfl; (intro F K hK; apply o_pickF; (iterate 4 rfl); exact hK))
  ((with_reducible apply TriM.setb 37 (false)); (case h => rfl); (case hi => exact decide_eq_false (fun q => q hp2)))
  (apply TriM.nil; (case hr => kernel_rfl); (try dsimp only [List.cons_append, List.nil_append]))
  (refine Tri.thenN ?_; apply Tri.condF; rfl; rfl; refine Tri.skip (Tri.thenN (Tri.seq (Tri.region ?_))); apply Tri.op; rfl)
  (apply o_loadAll (cs := tabL); (case hx => rfl); (case p => exact (by (with_reducible repeat constructor))); (case hl => exact tabL_length); (case hn => rfl))
  (apply Tri.op; rfl; apply o_move; rfl; rfl; apply Tri.op; rfl; apply o_move; rfl; rfl; apply Tri.op; rfl)
  (apply o_loadAll (cs := bmL v.m); (case hx => rfl); (case p => exact (by (with_reducible repeat constructor))); (case hl => exact bmL_len hv.m); (case hn => rfl))
  (apply Tri.op; rfl)
  (apply o_loadAll (cs := bmL v.old); (case hx => rfl); (case p => exact (by (with_reducible repeat constructor))); (case hl => exact bmL_len hv.o); (case hn => rfl))
  (apply Tri.op; rfl)
  (apply o_build (ys := viewL d v); (case hp => (repeat first | exact pev.nil | (apply pev.cons; case a => rfl))); (case hf => exact view_fill d v hv); (case hn => rfl))
  (apply Tri.op; rfl)
  (first | (apply o_boxA; (case hx => rfl); (case hn => rfl); intro pv) | (apply o_box1; (case hx => rfl); (case h1 => rfl); (case hn => rfl); intro pv))
  (apply Tri.op; rfl; apply o_assign; rfl; rfl; apply Tri.op; rfl; apply o_assign; rfl; rfl; refine Tri.nil (Tri.thenN (Tri.ret ?_)))
  (apply Tri.fin; (case hr => rfl); (case h => exact ResL.cons (Res1.tmp rfl) (ResL.cons (Res1.tmp rfl) (ResL.nil))); (apply fin_R (Hn := [blk pv 194 (viewL d v), DSK d v.S])); (case p => exact (by (repeat first | with_reducible constructor | constructor))); exact ⟨pv, rfl, rfl⟩)
end Go.Proofs.Ytckdlfbbkemklaa
end
section
/- layer 14's law: a tree is built: the walk. -/
namespace Go.Proofs.Ytckdlfbbkemklaa
open Go Go.RowKit Go.Gv
set_option linter.unusedVariables false
set_option linter.unusedSimpArgs false

theorem own_capX {e : TypeId} {size n m c : Nat} {A : Option Addr} {xs : List Value} {h : PH} (ho : own e size (.slice A n c) m xs h) : n ≤ c := by
  rcases ho with ⟨_, ⟨h1, h2⟩ | ⟨g, cap, cur, h1, h2, h3, h4, _⟩⟩
  · cases h1; exact Nat.le_refl _
  · cases h1; exact h3
set_option maxHeartbeats 16000000 in
theorem law14_build (k s : Nat) (hk : k ≤ 160) (hs : s ≤ 8) : SpecR Try.prog 35 #[.int .i64 (k : Int), .int .i64 (s : Int)] (fun _ => True)
    (fun r H' => ∃ pv d A c, r = .tuple #[.pointer (some ⟨pv, 0, none⟩), rootV (loadN v200 (bL s k)).2.1.1 ((loadN v200 (bL s k)).2.1.2 : Int), .slice A k c, .bool (decide ((loadN v200 (bL s k)).2.2 = 0))]
      ∧ H' = [blk pv 194 (viewL d (loadN v200 (bL s k)).1), DSK d (loadN v200 (bL s k)).1.S, own 103 8 (.slice A k c) k (EL (bL s k))]) := by
  refine SpecR.of (fun w _ => ?_)
  refine Calls.enter Try.func35 rfl rfl rfl (St.rebase w) ?_
  simp only [argSlots]
  (refine Tri.seq (Tri.region ?_); apply Tri.op; rfl; apply o_assign; rfl; rfl; apply Tri.op; rfl)
  (apply o_alloc; (case hn => rfl); intro b5)
  (apply Tri.op; rfl; apply o_assign; rfl; rfl; apply Tri.op; rfl; apply o_assign; rfl; rfl; refine Tri.nil (Tri.thenN (Tri.seq (Tri.region ?_))); apply Tri.op; rfl)
  (apply o_callR (hs := disk_NewD 200 (by omega)); (case hargs => (repeat first | exact evs.nil | (apply evs.cons; case a => rfl))); (case hpre => exact fun _ _ => trivial); (case hn => rfl))
  rintro r1 H1 ⟨d, rfl, rfl⟩
  (try dsimp only [List.cons_append, List.nil_append])
  (apply Tri.op; rfl; apply o_move; rfl; rfl; apply Tri.op; rfl; apply o_extract; rfl; rfl; rfl; apply Tri.op; rfl; apply o_extract; rfl; rfl; rfl; apply Tri.op; rfl; apply o_assign; rfl; rfl; apply Tri.op; rfl; apply o_assign; rfl; rfl; refine Tri.nil (Tri.thenN (Tri.seq (Tri.region ?_))); apply Tri.op; rfl)
  (apply o_callV (hs := crc_New); (case hargs => (repeat first | exact evs.nil | (apply evs.cons; case a => rfl))); (case hpre => exact fun _ _ => trivial); (case hn => rfl))
  (apply Tri.op; rfl; apply o_move; rfl; rfl; apply Tri.op; rfl)
  (apply o_callV (hs := bm_New 200); (case hargs => (repeat first | exact evs.nil | (apply evs.cons; case a => rfl))); (case hpre => exact fun _ _ => trivial); (case hn => rfl))
  (apply Tri.op; rfl)
  (apply o_callV (hs := bm_New 200); (case hargs => (repeat first | exact evs.nil | (apply evs.cons; case a => rfl))); (case hpre => exact fun _ _ => trivial); (case hn => rfl))
  (apply Tri.op; rfl)
  ((with_reducible apply Tri.eqA (A := DSK d _) (B := DSK d v200.S)); (case p => (with_reducible repeat constructor)); (case e => rfl))
  have hro : rightM v200.old = true := v200_right
  have hpo : v200.old.p = ((v200.S.A.length / 256 : Nat) : Int) := v200_p
  (apply o_callS (hs := tree_Open d v200 v200_ok v200_right hro v200_p hpo); (case hargs => (repeat first | exact evs.nil | (apply evs.cons; case a => rfl))); (case p => (repeat first | with_reducible constructor | constructor)); (case hn => rfl))
  rintro r2 H2 ⟨pv, rfl, rfl⟩
  (try dsimp only [List.cons_append, List.nil_append])
  (apply Tri.op; rfl; apply o_move; rfl; rfl; apply Tri.op; rfl; apply o_extract; rfl; rfl; rfl; apply Tri.op; rfl; apply o_extract; rfl; rfl; rfl; apply Tri.op; rfl; apply o_assign; rfl; rfl; apply Tri.op; rfl; apply o_assign; rfl; rfl; refine Tri.nil (Tri.thenN (Tri.seq (Tri.seq (Tri.region ?_)))); apply Tri.op; rfl; apply o_move; rfl; rfl; apply Tri.op; rfl; apply o_neq; rfl; rfl; rfl; apply Tri.op; rfl; apply o_move; rfl; rfl)
  ((with_reducible apply Tri.setb 32 (false)); (case h => rfl); (case hi => rfl))
  (apply Tri.opYes; rfl; rfl; rfl; apply o_move; rfl; rfl; apply Tri.opYes; rfl; rfl; rfl; apply o_neq; rfl; rfl; rfl; apply Tri.op; rfl; apply o_pickF; (iterate 4 rfl); apply Tri.op; rfl; apply o_move; rfl; rfl)
  ((with_reducible apply Tri.setb 36 (false)); (case h => rfl); (case hi => rfl))
  (apply Tri.opYes; rfl; rfl; rfl; apply o_move; rfl; rfl; apply Tri.opYes; rfl; rfl; rfl; apply o_eqlN; rfl; rfl; rfl; apply Tri.op; rfl; apply o_pickF; (iterate 4 rfl); refine Tri.nil (Tri.thenN ?_))
  ((with_reducible apply Tri.setb 39 (false)); (case h => rfl); (case hi => rfl))
  (apply Tri.condF; rfl; rfl; refine Tri.skip (Tri.thenN (Tri.seq (Tri.region ?_))); apply Tri.op; rfl; apply o_assign; rfl; rfl; refine Tri.nil (Tri.thenN (Tri.seq (Tri.region ?_))); apply Tri.op; rfl; apply o_assign; rfl; rfl; refine Tri.nil (Tri.thenN (Tri.seq (Tri.seq (Tri.region ?_)))); apply Tri.op; rfl; apply o_assign; rfl; rfl; refine Tri.nil (Tri.thenN (Tri.block ?_)))
  (with_reducible apply Tri.ownNil 103 8)
  (with_reducible apply Tri.ownNil 100 8)
  ((with_reducible apply Tri.eqA (A := own 103 8 (.slice none 0 0) 0 []) (B := own 103 8 (.slice none 0 0) 0 (EL (bL s 0)))); (case p => (with_reducible repeat constructor)); (case e => rfl))
  ((with_reducible apply Tri.eqA (A := own 100 8 (.slice none 0 0) 0 []) (B := own 100 8 (.slice none 0 0) 0 (EL (bL s 0)))); (case p => (with_reducible repeat constructor)); (case e => rfl))
  (apply Tri.loop (α := Σ' (i : Nat) (_ : Option Addr) (_ : Nat) (_ : Option Addr) (_ : Nat), i ≤ k) (m := fun x => k - x.1) (Lx := fun x => [(0, .int .i64 (k : Int)), (1, .int .i64 (s : Int)), (5, .pointer (some ⟨b5, 0, none⟩)), (10, .pointer (some ⟨pv, 0, none⟩)), (12, .slice x.2.1 x.1 x.2.2.1), (13, .slice x.2.2.2.1 x.1 x.2.2.2.2.1), (14, .int .i64 (x.1 : Int))]) (Hx := fun x => [blk pv 194 (viewL d v200), DSK d v200.S, blk b5 48 (rootL 0 0), own 103 8 (.slice x.2.1 x.1 x.2.2.1) x.1 (EL (bL s x.1)), own 100 8 (.slice x.2.2.2.1 x.1 x.2.2.2.2.1) x.1 (EL (bL s x.1)), Ex (hp w)]) (x0 := ⟨0, none, 0, none, 0, Nat.zero_le _⟩); (case hL => ((try dsimp only); (repeat (first | exact trivial | refine And.intro (by rfl) ?_)))); (case hH => ((try dsimp only); apply St.all; (repeat (first | exact Pulls.nil | (apply Pulls.cons; (case a => (first | ((repeat (first | with_reducible exact Gv.Pull.head | with_reducible apply Gv.Pull.tail)); done) | (repeat (first | exact Gv.Pull.head | apply Gv.Pull.tail)))))))))); (rintro ⟨i, A, c, A2, c2, hi⟩ mx hmx; (try dsimp only at hmx ⊢))
  (refine Tri.seq (Tri.seq (Tri.region ?_)); apply Tri.op; rfl; apply o_move; rfl; rfl; apply Tri.op; rfl; apply o_move; rfl; rfl; apply Tri.op; rfl; apply o_lss; rfl; rfl; rfl; refine Tri.nil (Tri.thenN ?_))
  (apply Tri.condD; (case hc => rfl); (all_goals intro hc))
  · have hik : i < k := by omega
    have hik' : i + 1 ≤ k := hik
    have hbd := bE_bounds (i := i) hs
    have hsx : EL (bL s i) ++ entL (bE s i) = EL (bL s (i + 1)) := by rw [bL_succ, EL_app]; simp [EL]
    obtain ⟨x, hx⟩ : ∃ x : Nat, x = i % 30 * (s + 1) := ⟨_, rfl⟩
    obtain ⟨y, hy⟩ : ∃ y : Nat, y = i % (s + 1) := ⟨_, rfl⟩
    rw [← hx, ← hy] at hbd
    have hE : entL (bE s i) = [.int .i64 ((i / 30 : Nat) : Int), .int .i64 (x : Int), .int .i64 ((x + y : Nat) : Int), .int .i64 ((2 + i : Nat) : Int), .int .i64 1, .int .i64 1, .int .i64 0, .int .u32 0] := by rw [hx, hy]; rfl
    have hxm : (i : Int) % 30 * ((s : Int) + 1) = (x : Int) := by rw [hx]; simp
    have hym : (i : Int) % ((s : Int) + 1) = (y : Int) := by rw [hy]; simp
    (refine Tri.skip (Tri.thenN (Tri.seq (Tri.block (Tri.seq (Tri.region ?_))))); apply Tri.op; rfl; apply o_move; rfl; rfl; apply Tri.op; rfl; apply o_quo; rfl; rfl; rfl; (omega); (omega); apply Tri.op; rfl; apply o_move; rfl; rfl; apply Tri.op; rfl; apply o_rem; rfl; rfl; rfl; (omega); (omega); apply Tri.op; rfl; apply o_move; rfl; rfl; apply Tri.op; rfl; apply o_add64; rfl; rfl; rfl; (omega); apply Tri.op; rfl; apply o_mul64; rfl; rfl; rfl; (omega); apply Tri.op; rfl)
    ((with_reducible apply Tri.seti 52 ((x : Int))); (case h => rfl); (case hi => exact hxm))
    ((with_reducible apply Tri.seti 47 (((i / 30 : Nat) : Int))); (case h => rfl); (case hi => omega))
    (apply o_build (ys := [.int .i64 ((i / 30 : Nat) : Int), .int .i64 (x : Int)]); (case hp => (repeat first | exact pev.nil | (apply pev.cons; case a => rfl))); (case hf => rfl); (case hn => rfl))
    (apply Tri.op; rfl; apply o_move; rfl; rfl; apply Tri.op; rfl; apply o_add64; rfl; rfl; rfl; (omega); apply Tri.op; rfl)
    ((with_reducible apply Tri.seti 55 (((2 + i : Nat) : Int))); (case h => rfl); (case hi => omega))
    (apply o_build (ys := [.int .i64 ((i / 30 : Nat) : Int), .int .i64 (x : Int), .int .i64 0, .int .i64 ((2 + i : Nat) : Int), .int .i64 1, .int .i64 1, .int .i64 0, .int .u32 0]); (case hp => (repeat first | exact pev.nil | (apply pev.cons; case a => rfl))); (case hf => rfl); (case hn => rfl))
    (apply Tri.op; rfl)
    (apply o_alloc; (case hn => rfl); intro b15)
    (apply Tri.op; rfl)
    (apply o_storeAll (ys := [.int .i64 ((i / 30 : Nat) : Int), .int .i64 (x : Int), .int .i64 0, .int .i64 ((2 + i : Nat) : Int), .int .i64 1, .int .i64 1, .int .i64 0, .int .u32 0]); (case hx => rfl); (case hy => rfl); (case p => (with_reducible repeat constructor)); (case hl => rfl); (case hc => rfl); (case h1 => exact entL_one5 ⟨(_, _), 0, _, 1, 1, 0, 0⟩))
    (refine Tri.nil (Tri.thenN (Tri.seq ?_)))
    (apply Tri.quietTail 8; (case hB => kernel_rfl); (dsimp only [List.take, List.drop]))
    ((iterate 2 (first | (apply TriQ.op; rfl) | (apply TriQ.opYes; rfl; rfl; with_reducible rfl)); rfl; rfl; (intro K hK; apply o_fieldAddr; rfl; rfl; exact hK)); (first | (apply TriQ.op; rfl) | (apply TriQ.opYes; rfl; rfl; with_reducible rfl)); rfl; rfl; (intro K hK; apply o_load; rfl; (with_reducible repeat constructor); rfl; rfl; exact hK); (iterate 2 (first | (apply TriQ.op; rfl) | (apply TriQ.opYes; rfl; rfl; with_reducible rfl)); rfl; rfl; (intro K hK; apply o_move; rfl; rfl; exact hK)); (first | (apply TriQ.op; rfl) | (apply TriQ.opYes; rfl; rfl; with_reducible rfl)); rfl; rfl; (intro K hK; apply o_add64; rfl; rfl; rfl; (omega); exact hK); (first | (apply TriQ.op; rfl) | (apply TriQ.opYes; rfl; rfl; with_reducible rfl)); rfl; rfl; (intro K hK; apply o_rem; rfl; rfl; rfl; (omega); (omega); exact hK); (first | (apply TriQ.op; rfl) | (apply TriQ.opYes; rfl; rfl; with_reducible rfl)); rfl; rfl; (intro K hK; apply o_add64; rfl; rfl; rfl; (omega); exact hK); refine TriQ.nil ?_)
    ((with_reducible apply Tri.seti 64 (((x + y : Nat) : Int))); (case h => rfl); (case hi => (rw [hym]; omega)))
    (apply Tri.op; rfl; apply o_fieldAddr; rfl; rfl; apply Tri.op; rfl)
    (apply o_store; (case hx => rfl); (case hy => rfl); (case h1 => rfl); (case p => (with_reducible repeat constructor)); (case hi => exact (by decide : 2 < 8)))
    ((with_reducible apply Tri.eqA (A := blk b15 _ _) (B := blk b15 103 (entL (bE s i)))); (case p => (with_reducible repeat constructor)); (case e => (rw [hE]; rfl)))
    (refine Tri.nil (Tri.thenN ?_))
    ((first | with_reducible apply Tri.mix [blk b15 103 (entL (bE s i))] | (apply TriR.mix [blk b15 103 (entL (bE s i))]; (case hnd => rfl))); (case p => (repeat first | with_reducible constructor | constructor)); (dsimp only [List.length]))
    ((first | (apply TriM.q 1; (case ho => rfl); (case hg => rfl)) | (apply TriM.qYes 1; (case ho => rfl); (case hg => rfl); (case hyl => rfl); (case hb => with_reducible rfl))); (case hB => kernel_rfl); (case hd => rfl); (case hn => rfl); (case h => (intro F K hK; (try dsimp only [List.cons_append, List.nil_append]); (apply o_loadAll (cs := entL (bE s i)); (case hx => rfl); (case p => (with_reducible repeat constructor)); (case hl => rfl); (case hn => rfl)); exact hK)))
    ((first | (apply TriM.q 5; (case ho => rfl); (case hg => rfl)) | (apply TriM.qYes 5; (case ho => rfl); (case hg => rfl); (case hyl => rfl); (case hb => with_reducible rfl))); (case hB => kernel_rfl); (case hd => rfl); (case hn => rfl); (case h => (intro F K hK; (try dsimp only [List.cons_append, List.nil_append]); (apply o_loadAll (cs := entL (bE s i)); (case hx => rfl); (case p => (with_reducible repeat constructor)); (case hl => rfl); (case hn => rfl)); exact hK)))
    ((first | (apply TriM.q 0; rfl; rfl) | (apply TriM.qYes 0; rfl; rfl; rfl; with_reducible rfl)); kernel_rfl; rfl; rfl; (intro F K hK; apply o_move; rfl; rfl; exact hK); (first | (apply TriM.q 4; rfl; rfl) | (apply TriM.qYes 4; rfl; rfl; rfl; with_reducible rfl)); kernel_rfl; rfl; rfl; (intro F K hK; apply o_move; rfl; rfl; exact hK))
    (apply TriM.a 2; (case ho => rfl); (case hg => rfl); (case hr => kernel_rfl); (try dsimp only [List.cons_append, List.nil_append]))
    (apply o_litSl (ys := entL (bE s i)); (case hp => (repeat first | exact pev.nil | (apply pev.cons; case a => rfl))); (case hm => rfl); (case hf => rfl); (case hn => rfl); intro v1)
    (apply TriM.back; (case p => (repeat first | with_reducible constructor | constructor)))
    (apply TriM.a 3; (case ho => rfl); (case hg => rfl); (case hr => kernel_rfl); (try dsimp only [List.cons_append, List.nil_append]))
    (apply o_append (m2 := 1) (news := entL (bE s i)); (case hx => rfl); (case hy => rfl); (case p => (with_reducible repeat constructor)); (case hr => exact rdw_own (v := v1) (by (with_reducible repeat constructor))); (case hl => rfl); (case h1 => exact entL_one5 _); (case hb => omega); (case hn => rfl))
    intro v2
    (refine Tri.shape (e := 103) (size := 8) (v := v2) (by (with_reducible repeat constructor)) ?_; rintro ⟨A3, c3, rfl⟩)
    (apply TriM.back; (case p => (repeat first | with_reducible constructor | constructor)))
    ((first | (apply TriM.q 6; (case ho => rfl); (case hg => rfl)) | (apply TriM.qYes 6; (case ho => rfl); (case hg => rfl); (case hyl => rfl); (case hb => with_reducible rfl))); (case hB => kernel_rfl); (case hd => rfl); (case hn => rfl); (case h => (intro F K hK; (try dsimp only [List.cons_append, List.nil_append]); apply o_callV (hs := law12_Entry (bE s i)); (case hargs => (repeat first | exact evs.nil | (apply evs.cons; case a => rfl))); (case hpre => exact fun _ _ => trivial); (case hn => rfl); exact hK)))
    (apply TriM.a 7; (case ho => rfl); (case hg => rfl); (case hr => kernel_rfl); (try dsimp only [List.cons_append, List.nil_append]))
    (apply o_litSl (ys := entL (bE s i)); (case hp => (repeat first | exact pev.nil | (apply pev.cons; case a => rfl))); (case hm => rfl); (case hf => rfl); (case hn => rfl); intro v3)
    (apply TriM.back; (case p => (repeat first | with_reducible constructor | constructor)))
    (apply TriM.a 8; (case ho => rfl); (case hg => rfl); (case hr => kernel_rfl); (try dsimp only [List.cons_append, List.nil_append]))
    (apply o_append (m2 := 1) (news := entL (bE s i)); (case hx => rfl); (case hy => rfl); (case p => (with_reducible repeat constructor)); (case hr => exact rdw_own (v := v3) (by (with_reducible repeat constructor))); (case hl => rfl); (case h1 => exact entL_one5 _); (case hb => omega); (case hn => rfl))
    intro v4
    (refine Tri.shape (e := 100) (size := 8) (v := v4) (by (with_reducible repeat constructor)) ?_; rintro ⟨A4, c4, rfl⟩)
    (apply TriM.back; (case p => (repeat first | with_reducible constructor | constructor)))
    ((first | (apply TriM.q 9; rfl; rfl) | (apply TriM.qYes 9; rfl; rfl; rfl; with_reducible rfl)); kernel_rfl; rfl; rfl; (intro F K hK; apply o_assign; rfl; rfl; exact hK); (first | (apply TriM.q 10; rfl; rfl) | (apply TriM.qYes 10; rfl; rfl; rfl; with_reducible rfl)); kernel_rfl; rfl; rfl; (intro F K hK; apply o_assign; rfl; rfl; exact hK))
    (apply TriM.nil; (case hr => kernel_rfl); (try dsimp only [List.cons_append, List.nil_append]))
    (refine Tri.blockN (Tri.thenN (Tri.region ?_)); apply Tri.op; rfl; apply o_move; rfl; rfl; apply Tri.op; rfl; apply o_add64; rfl; rfl; rfl; (omega); apply Tri.op; rfl; apply o_assign; rfl; rfl; refine Tri.nil (Tri.thenN ?_))
    ((with_reducible apply Tri.eqA (A := own 103 8 (.slice A3 (i + 1) c3) _ _) (B := own 103 8 (.slice A3 (i + 1) c3) (i + 1) (EL (bL s (i + 1))))); (case p => (with_reducible repeat constructor)); (case e => (rw [hsx])))
    ((with_reducible apply Tri.eqA (A := own 100 8 (.slice A4 (i + 1) c4) _ _) (B := own 100 8 (.slice A4 (i + 1) c4) (i + 1) (EL (bL s (i + 1))))); (case p => (with_reducible repeat constructor)); (case e => (rw [hsx])))
    ((with_reducible apply Tri.seti 14 (((i + 1 : Nat) : Int))); (case h => rfl); (case hi => omega))
    (apply Tri.again (y := ⟨i + 1, A3, c3, A4, c4, hik'⟩); (case p => ((try dsimp only); (repeat (first | exact Pulls.nil | (apply Pulls.cons; (case a => (first | ((repeat (first | with_reducible exact Gv.Pull.head | with_reducible apply Gv.Pull.tail)); done) | (repeat (first | exact Gv.Pull.head | apply Gv.Pull.tail))))))))); (case hm => ((try dsimp only); omega)); (try dsimp only))
    (repeat (first | exact trivial | refine And.intro (by rfl) ?_))
  · have hik : i = k := by omega
    subst hik
    ((with_reducible refine Tri.exit (Tri.thenE (Tri.thenE (Tri.blockE (Tri.thenN (Tri.seq (Tri.region ?_))))))); apply Tri.op; rfl; apply o_move; rfl; rfl; apply Tri.op; rfl; apply o_move; rfl; rfl; apply Tri.op; rfl)
    have hbl := bL_length s i
    have hload := fun mmc : (bL s i).length ≤ c2 => view_Load pv d v200 A2 c2 (bL s i) [(.slice A2 i c2, i, EL (bL s i))] v200_ok (bL_ok hs (by omega)) (by omega) (by rw [hbl]; show 0 + _ ≤ _; omega) (by rw [hbl]; exact .head _) mmc
    rw [hbl] at hload
    refine Tri.know (A := own 100 8 (.slice A2 i c2) i (EL (bL s i))) (by (with_reducible repeat constructor)) (fun h0 ho => own_capX ho) (fun hcap => ?_)
    apply Tri.noneM
    refine Tri.joinS (l := []) (e := 100) (size := 8) (v := .slice A2 i c2) (by (with_reducible repeat constructor)) (by (with_reducible repeat constructor)) ?_
    ((with_reducible apply Tri.eqA (A := manyRd ([] ++ [_])) (B := manyRd [(.slice A2 i c2, i, EL (bL s i))])); (case p => (with_reducible repeat constructor)); (case e => rfl))
    have hL := hload hcap
    generalize loadN v200 (bL s i) = R at hL ⊢
    (apply o_callS (hs := hL); (case hargs => (repeat first | exact evs.nil | (apply evs.cons; case a => rfl))); (case p => (repeat first | with_reducible constructor | constructor)); (case hn => rfl))
    rintro r5 H5 ⟨rfl, rfl⟩
    (try dsimp only [List.cons_append, List.nil_append])
    (apply Tri.op; rfl; apply o_move; rfl; rfl; apply Tri.op; rfl; apply o_extract; rfl; rfl; rfl; apply Tri.op; rfl; apply o_extract; rfl; rfl; rfl; apply Tri.op; rfl)
    (apply o_alloc; (case hn => rfl); intro b16)
    (apply Tri.op; rfl)
    (apply o_storeAll (ys := rootL R.2.1.1 (R.2.1.2 : Int)); (case hx => rfl); (case hy => rfl); (case p => (with_reducible repeat constructor)); (case hl => rfl); (case hc => rfl); (case h1 => exact two_int _ _))
    (apply Tri.op; rfl; apply o_assign; rfl; rfl; refine Tri.nil (Tri.thenN (Tri.seq ?_)))
    ((first | with_reducible apply Tri.mix [blk b16 48 (rootL R.2.1.1 (R.2.1.2 : Int))] | (apply TriR.mix [blk b16 48 (rootL R.2.1.1 (R.2.1.2 : Int))]; (case hnd => rfl))); (case p => (repeat first | with_reducible constructor | constructor)); (dsimp only [List.length]))
    ((first | (apply TriM.q 1; (case ho => rfl); (case hg => rfl)) | (apply TriM.qYes 1; (case ho => rfl); (case hg => rfl); (case hyl => rfl); (case hb => with_reducible rfl))); (case hB => kernel_rfl); (case hd => rfl); (case hn => rfl); (case h => (intro F K hK; (try dsimp only [List.cons_append, List.nil_append]); (apply o_loadAll (cs := rootL R.2.1.1 (R.2.1.2 : Int)); (case hx => rfl); (case p => (with_reducible repeat constructor)); (case hl => rfl); (case hn => rfl)); exact hK)))
    ((first | (apply TriM.q 0; rfl; rfl) | (apply TriM.qYes 0; rfl; rfl; rfl; with_reducible rfl)); kernel_rfl; rfl; rfl; (intro F K hK; apply o_move; rfl; rfl; exact hK); (first | (apply TriM.q 2; rfl; rfl) | (apply TriM.qYes 2; rfl; rfl; rfl; with_reducible rfl)); kernel_rfl; rfl; rfl; (intro F K hK; apply o_move; rfl; rfl; exact hK); (first | (apply TriM.q 3; rfl; rfl) | (apply TriM.qYes 3; rfl; rfl; rfl; with_reducible rfl)); kernel_rfl; rfl; rfl; (intro F K hK; apply o_move; rfl; rfl; exact hK); (first | (apply TriM.q 4; rfl; rfl) | (apply TriM.qYes 4; rfl; rfl; rfl; with_reducible rfl)); kernel_rfl; rfl; rfl; (intro F K hK; apply o_eql; rfl; rfl; rfl; exact hK))
    ((first | (apply TriM.q 5; rfl; rfl) | (apply TriM.qYes 5; rfl; rfl; rfl; with_reducible rfl)); kernel_rfl; rfl; rfl; (intro F K hK; apply o_assign; rfl; rfl; exact hK))
    (apply TriM.a 6; (case ho => rfl); (case hg => rfl); (case hr => kernel_rfl); (try dsimp only [List.cons_append, List.nil_append]))
    (apply o_storeAll (ys := rootL R.2.1.1 (R.2.1.2 : Int)); (case hx => rfl); (case hy => rfl); (case p => (with_reducible repeat constructor)); (case hl => rfl); (case hc => rfl); (case h1 => exact two_int _ _))
    (apply TriM.back; (case p => (repeat first | with_reducible constructor | constructor)))
    ((first | (apply TriM.q 7; rfl; rfl) | (apply TriM.qYes 7; rfl; rfl; rfl; with_reducible rfl)); kernel_rfl; rfl; rfl; (intro F K hK; apply o_assign; rfl; rfl; exact hK); (first | (apply TriM.q 8; rfl; rfl) | (apply TriM.qYes 8; rfl; rfl; rfl; with_reducible rfl)); kernel_rfl; rfl; rfl; (intro F K hK; apply o_assign; rfl; rfl; exact hK))
    (apply TriM.nil; (case hr => kernel_rfl); (try dsimp only [List.cons_append, List.nil_append]))
    ((with_reducible apply Tri.setb 7 ((decide (R.2.2 = 0)))); (case h => rfl); (case hi => exact decide_eq_decide.2 (by omega)))
    (refine Tri.thenN (Tri.ret ?_))
    (apply Tri.fin; (case hr => rfl); (case h => exact ResL.cons (Res1.tmp rfl) (ResL.cons ((Res1.agg rfl (by (with_reducible repeat constructor)) (by rw [List.drop_zero]; exact List.take_of_length_le (Nat.le_of_eq (rfl : (rootL R.2.1.1 (R.2.1.2 : Int)).length = 2))) (rfl : (rootL R.2.1.1 (R.2.1.2 : Int)).length = 2))) (ResL.cons (Res1.tmp rfl) (ResL.cons (Res1.tmp rfl) (ResL.nil))))); (apply fin_R (Hn := [blk pv 194 (viewL d R.1), DSK d R.1.S, own 103 8 (.slice A i c) i (EL (bL s i))])); (case p => exact (by (repeat first | with_reducible constructor | constructor))); exact ⟨pv, d, A, c, rfl, rfl⟩)
end Go.Proofs.Ytckdlfbbkemklaa
end
section
/- walk: Take, of no view: the walk. -/
namespace Go.Proofs.Ytckdlfbbkemklaa
open Go Go.RowKit Go.Gv
set_option linter.unusedVariables false
set_option linter.unusedSimpArgs false

set_option maxHeartbeats 8000000 in
theorem walk_Take_nil (a h n : Int) (hn : 1 ≤ n) : SpecR Try.prog 36 #[.pointer none, .agg #[.int .i64 a, .int .i64 h], .int .i64 n] (fun _ => True) (fun r H' => r = .tuple #[.slice none 0 0, .int .i64 0, .int .i64 1] ∧ H' = []) := by
  refine SpecR.of (fun w _ => ?_)
  refine Calls.enterM Try.func36 rfl rfl rfl (St.rebase w) ?_
  simp only [argSlots]
  (try dsimp only [List.cons_append, List.nil_append])
  (refine TriR.seq (TriR.region ?_); apply TriR.op; rfl; rfl)
  (first | (apply o_boxA; (case hx => rfl); (case hn => rfl); intro b4) | (apply o_box1; (case hx => rfl); (case h1 => rfl); (case hn => rfl); intro b4))
  (apply TriR.op; rfl; rfl)
  (first | (apply o_boxA; (case hx => rfl); (case hn => rfl); intro b5) | (apply o_box1; (case hx => rfl); (case h1 => rfl); (case hn => rfl); intro b5))
  (apply TriR.op; rfl; rfl)
  (apply o_alloc; (case hn => rfl); intro b6)
  (apply TriR.op; rfl; rfl)
  (apply o_alloc; (case hn => rfl); intro b7)
  (apply TriR.op; rfl; rfl)
  (apply o_alloc; (case hn => rfl); intro b8)
  (refine TriR.nil (Tri.thenN (TriR.seq (TriR.region ?_))); apply TriR.op; rfl; rfl; apply o_move; rfl; rfl; apply TriR.op; rfl; rfl)
  (apply o_build (ys := [.pointer none, .int .i64 0]); (case hp => (repeat first | exact pev.nil | (apply pev.cons; case a => rfl))); (case hf => rfl); (case hn => rfl))
  (apply TriR.op; rfl; rfl)
  (first | (apply o_boxA; (case hx => rfl); (case hn => rfl); intro pw) | (apply o_box1; (case hx => rfl); (case h1 => rfl); (case hn => rfl); intro pw))
  (apply TriR.op; rfl; rfl; apply o_assign; rfl; rfl; refine TriR.nil (Tri.thenN (TriR.seq (TriR.region ?_))); apply TriR.op; rfl; rfl)
  (apply o_alloc; (case hn => rfl); intro b10)
  (refine TriR.nil (Tri.thenN (TriR.seq (TriR.seq (TriR.region ?_)))); apply TriR.op; rfl; rfl; apply o_load; rfl; (with_reducible repeat constructor); rfl; rfl; apply TriR.op; rfl; rfl; apply o_lss; rfl; rfl; rfl; refine TriR.nil (Tri.thenN ?_))
  ((with_reducible apply Tri.setb 17 (false)); (case h => rfl); (case hi => exact decide_eq_false (by omega)))
  (apply TriR.condF; rfl; rfl; refine TriR.skip (Tri.thenN (TriR.seq (TriR.seq (TriR.region ?_)))); apply TriR.op; rfl; rfl; apply o_move; rfl; rfl; apply TriR.op; rfl; rfl)
  (apply o_loadAll (cs := [.int .i64 a, .int .i64 h]); (case hx => rfl); (case p => exact (by (with_reducible repeat constructor))); (case hl => rfl); (case hn => rfl))
  (apply TriR.op; rfl; rfl)
  (apply o_callR (hs := walker_entries pw a h); (case hargs => (repeat first | exact evs.nil | (apply evs.cons; case a => rfl))); (case hpre => exact fun _ _ => trivial); (case hn => rfl))
  rintro r2 H2 ⟨b2, b3, rfl, rfl⟩
  (try dsimp only [List.cons_append, List.nil_append])
  (refine TriR.nil (Tri.thenN (TriR.block ?_)))
  have hit := entries_bad pw b2 b3 none a h 0 (.inl rfl)
  have e0 : (Value.pointer ((none : Option Nat).map fun p => (⟨p, 0, none⟩ : Addr))) = .pointer none := rfl
  rw [e0] at hit
  refine TriR.rangeS (α := Unit) (β := Unit) (γ := Nat) (fun _ => 0) (fun _ => 0)
    (fun _ => [blk b6 30 [.slice none 0 0], blk b7 3 [.int .i64 0], blk b8 44 [.int .i64 0]]) () (fun _ => .ret)
    (fun _ => [blk b6 30 [.slice none 0 0], blk b7 3 [.int .i64 0], blk b8 44 [.int .i64 1]])
    (fun _ z => [(6, .pointer (some ⟨b6, 0, none⟩)), (7, .pointer (some ⟨b7, 0, none⟩)), (8, .pointer (some ⟨b8, 0, none⟩)), (11, .pointer (some ⟨z, 0, none⟩)), (12, .int .i64 1)])
    (fun _ z => [blk z 100 (entL ent0), blk b6 30 [.slice none 0 0], blk b7 3 [.int .i64 0], blk b8 44 [.int .i64 0]])
    hit rfl rfl (by (repeat first | with_reducible constructor | constructor)) ?_ ?_ ?_ ?_ ?_ ?_
  · intro y hy
    rw [List.mem_singleton.1 hy]; rfl
  · intro q hq
    simp at hq
    rcases hq with rfl | rfl <;> rfl
  · intro lp x vs hvs hq
    simp at hvs
    subst hvs
    simp only [zipL]
    (try dsimp only [List.cons_append, List.nil_append])
    (refine TriR.seq (TriR.region ?_); apply TriR.op; rfl; rfl)
    (apply o_alloc; (case hn => rfl); intro b11)
    (apply TriR.op; rfl; rfl)
    (apply o_storeAll (ys := entL ent0); (case hx => rfl); (case hy => rfl); (case p => (with_reducible repeat constructor)); (case hl => rfl); (case hc => rfl); (case h1 => exact entL_one5 ent0))
    (refine TriR.nil (Tri.thenN (TriR.region ?_)); apply TriR.op; rfl; rfl; apply o_assign; rfl; rfl; refine TriR.nil (Tri.thenN ?_))
    (apply Tri.reach (y := b11); (case hL => ((try dsimp only); (repeat (first | exact trivial | refine And.intro (by rfl) ?_)))); (case p => ((try dsimp only); (repeat (first | exact Pulls.nil | (apply Pulls.cons; (case a => (first | ((repeat (first | with_reducible exact Gv.Pull.head | with_reducible apply Gv.Pull.tail)); done) | (repeat (first | exact Gv.Pull.head | apply Gv.Pull.tail))))))))))
  · intro lp x vs hvs b11 hq
    (try dsimp only [List.cons_append, List.nil_append])
    (refine TriR.block (TriR.seq (TriR.seq (TriR.region ?_))); apply TriR.op; rfl; rfl; apply o_move; rfl; rfl; apply TriR.op; rfl; rfl; apply o_neq; rfl; rfl; rfl; refine TriR.nil (Tri.thenN ?_))
    ((with_reducible apply Tri.setb 24 (true)); (case h => rfl); (case hi => rfl))
    (apply TriR.condT; rfl; rfl; refine TriR.seq (TriR.region ?_); apply TriR.op; rfl; rfl; apply o_move; rfl; rfl; apply TriR.op; rfl; rfl; apply o_store; rfl; rfl; rfl; (with_reducible repeat constructor); (exact Nat.le_of_ble_eq_true rfl); apply TriR.op; rfl; rfl; apply o_store; rfl; rfl; rfl; (with_reducible repeat constructor); (exact Nat.le_of_ble_eq_true rfl); apply TriR.op; rfl; rfl; apply o_store; rfl; rfl; rfl; (with_reducible repeat constructor); (exact Nat.le_of_ble_eq_true rfl); refine TriR.nil (Tri.thenN (TriR.ret (Tri.thenR (Tri.blockR ?_)))))
    (apply Tri.rdRetS (y := ()); (case hj => exact ⟨rfl, rfl⟩); (case p => ((try dsimp only [List.cons_append, List.nil_append]); (repeat (first | exact Pulls.nil | (apply Pulls.cons; (case a => (first | ((repeat (first | with_reducible exact Gv.Pull.head | with_reducible apply Gv.Pull.tail)); done) | (repeat (first | exact Gv.Pull.head | apply Gv.Pull.tail))))))))))
  · intro D y hy
    exact absurd hy (by decide)
  · intro D y hjl
    (try dsimp only [List.cons_append, List.nil_append])
    (refine TriR.ret (Tri.blockR (Tri.thenR ?_)))
    (apply Tri.finM1; (case p => (with_reducible repeat constructor)); (case hr => rfl); (case h => exact ResL.cons (Res1.cell rfl (by (with_reducible repeat constructor)) rfl) (ResL.cons (Res1.cell rfl (by (with_reducible repeat constructor)) rfl) (ResL.cons (Res1.cell rfl (by (with_reducible repeat constructor)) rfl) (ResL.nil)))); (apply fin_R (Hn := [])); (case p => exact (by (repeat first | with_reducible constructor | constructor))); exact ⟨rfl, rfl⟩)
end Go.Proofs.Ytckdlfbbkemklaa
end
section
/- layer 14's law: entries are told: the walk. -/
namespace Go.Proofs.Ytckdlfbbkemklaa
open Go Go.RowKit Go.Gv
set_option linter.unusedVariables false
set_option linter.unusedSimpArgs false

set_option maxHeartbeats 16000000 in
theorem law14_walks : SpecR Try.prog 34 #[] (fun _ => True) (fun r H' => r = .bool true ∧ H' = []) := by
  refine SpecR.of (fun w _ => ?_)
  refine Calls.enter Try.func34 rfl rfl rfl (St.rebase w) ?_
  simp only [argSlots]
  have hB := v200_built 9 1 (by omega) (by omega)
  have hbd := law14_build 9 1 (by omega) (by omega)
  have hn9 := nine
  have hl9 := bL_length 1 9
  generalize loadN v200 (bL 1 9) = R at hB hbd hn9
  have hbe : decide (R.2.2 = 0) = true := decide_eq_true hB.e
  simp only [hbe] at hbd
  (refine Tri.seq (Tri.region ?_); apply Tri.op; rfl; apply o_assign; rfl; rfl; refine Tri.nil (Tri.thenN (Tri.seq (Tri.region ?_))); apply Tri.op; rfl)
  (apply o_callR (hs := hbd); (case hargs => (repeat first | exact evs.nil | (apply evs.cons; case a => rfl))); (case hpre => exact fun _ _ => trivial); (case hn => rfl))
  rintro r1 H1 ⟨pv, d, A, c, rfl, rfl⟩
  (try dsimp only [List.cons_append, List.nil_append])
  (apply Tri.op; rfl; apply o_move; rfl; rfl; apply Tri.op; rfl; apply o_extract; rfl; rfl; rfl; apply Tri.op; rfl; apply o_extract; rfl; rfl; rfl; apply Tri.op; rfl; apply o_extract; rfl; rfl; rfl; apply Tri.op; rfl; apply o_extract; rfl; rfl; rfl; apply Tri.op; rfl)
  (apply o_alloc; (case hn => rfl); intro b2)
  (apply Tri.op; rfl; apply o_assign; rfl; rfl; apply Tri.op; rfl)
  (apply o_storeAll (ys := rootL R.2.1.1 (R.2.1.2 : Int)); (case hx => rfl); (case hy => rfl); (case p => (with_reducible repeat constructor)); (case hl => rfl); (case hc => rfl); (case h1 => exact two_int _ _))
  (apply Tri.op; rfl; apply o_assign; rfl; rfl; apply Tri.op; rfl; apply o_assign; rfl; rfl; refine Tri.nil (Tri.thenN (Tri.seq (Tri.seq (Tri.region ?_)))); apply Tri.op; rfl; apply o_move; rfl; rfl; apply Tri.op; rfl; apply o_not; rfl; rfl; refine Tri.nil (Tri.thenN ?_))
  ((with_reducible apply Tri.setb 18 (false)); (case h => rfl); (case hi => rfl))
  (apply Tri.condF; rfl; rfl; refine Tri.skip (Tri.thenN (Tri.seq (Tri.region ?_))); apply Tri.op; rfl; apply o_move; rfl; rfl; apply Tri.op; rfl)
  have hT := walk_Take pv d R.1 hB.ok hB.wt R.2.1.2 R.2.1.1 hB.h5 hB.g hB.C 3 (by rw [hB.E, hl9]; omega)
  rw [hB.E, hB.tk, hl9] at hT
  have e3 : (3 : Int).toNat = 3 := rfl
  have e3b : (bL 1 9).take 3 = bL 1 3 := bL_take (by omega)
  have e3l : (bL 1 3).length = 3 := bL_length 1 3
  rw [e3, hn9, e3b, e3l] at hT
  (apply o_loadAll (cs := rootL R.2.1.1 (R.2.1.2 : Int)); (case hx => rfl); (case p => exact (by (with_reducible repeat constructor))); (case hl => rfl); (case hn => rfl))
  (apply Tri.op; rfl)
  (apply o_callS (hs := hT); (case hargs => (repeat first | exact evs.nil | (apply evs.cons; case a => rfl))); (case p => (repeat first | with_reducible constructor | constructor)); (case hn => rfl))
  rintro r2 H2 ⟨A2, c2, rfl, rfl⟩
  (try dsimp only [List.cons_append, List.nil_append])
  (apply Tri.op; rfl; apply o_move; rfl; rfl; apply Tri.op; rfl; apply o_extract; rfl; rfl; rfl; apply Tri.op; rfl; apply o_extract; rfl; rfl; rfl; apply Tri.op; rfl; apply o_extract; rfl; rfl; rfl; apply Tri.op; rfl; apply o_assign; rfl; rfl; apply Tri.op; rfl; apply o_assign; rfl; rfl; apply Tri.op; rfl; apply o_assign; rfl; rfl; refine Tri.nil (Tri.thenN (Tri.seq (Tri.region ?_))); apply Tri.op; rfl)
  (apply o_loadAll (cs := rootL R.2.1.1 (R.2.1.2 : Int)); (case hx => rfl); (case p => exact (by (with_reducible repeat constructor))); (case hl => rfl); (case hn => rfl))
  (apply Tri.op; rfl)
  (apply o_callV (hs := walk_Take_nil R.2.1.1 (R.2.1.2 : Int) 3 (by omega)); (case hargs => (repeat first | exact evs.nil | (apply evs.cons; case a => rfl))); (case hpre => exact fun _ _ => trivial); (case hn => rfl))
  (apply Tri.op; rfl; apply o_move; rfl; rfl; apply Tri.op; rfl; apply o_extract; rfl; rfl; rfl; apply Tri.op; rfl; apply o_extract; rfl; rfl; rfl; apply Tri.op; rfl; apply o_extract; rfl; rfl; rfl; apply Tri.op; rfl; apply o_assign; rfl; rfl; apply Tri.op; rfl; apply o_assign; rfl; rfl; apply Tri.op; rfl; apply o_assign; rfl; rfl; refine Tri.nil (Tri.thenN (Tri.seq ?_)))
  have hE : EL (((bL 1 9).drop 0).take (3 - 0)) = EL (bL 1 3) := by rw [List.drop_zero, Nat.sub_zero, e3b]
  ((first | with_reducible apply Tri.mix [own 100 8 (.slice A2 3 c2) 3 (EL (bL 1 3)), own 103 8 (.slice A 9 c) 9 (EL (bL 1 9))] | (apply TriR.mix [own 100 8 (.slice A2 3 c2) 3 (EL (bL 1 3)), own 103 8 (.slice A 9 c) 9 (EL (bL 1 9))]; (case hnd => rfl))); (case p => (repeat first | with_reducible constructor | constructor)); (dsimp only [List.length]))
  ((first | (apply TriM.q 0; rfl; rfl) | (apply TriM.qYes 0; rfl; rfl; rfl; with_reducible rfl)); kernel_rfl; rfl; rfl; (intro F K hK; apply o_move; rfl; rfl; exact hK); (first | (apply TriM.q 1; rfl; rfl) | (apply TriM.qYes 1; rfl; rfl; rfl; with_reducible rfl)); kernel_rfl; rfl; rfl; (intro F K hK; apply o_eql; rfl; rfl; rfl; exact hK); (first | (apply TriM.q 2; rfl; rfl) | (apply TriM.qYes 2; rfl; rfl; rfl; with_reducible rfl)); kernel_rfl; rfl; rfl; (intro F K hK; apply o_move; rfl; rfl; exact hK))
  ((with_reducible apply TriM.setb 34 (true)); (case h => rfl); (case hi => rfl))
  ((first | (apply TriM.q 3; rfl; rfl) | (apply TriM.qYes 3; rfl; rfl; rfl; with_reducible rfl)); kernel_rfl; rfl; rfl; (intro F K hK; apply o_move; rfl; rfl; exact hK); (first | (apply TriM.q 4; rfl; rfl) | (apply TriM.qYes 4; rfl; rfl; rfl; with_reducible rfl)); kernel_rfl; rfl; rfl; (intro F K hK; apply o_eql; rfl; rfl; rfl; exact hK); (first | (apply TriM.q 5; rfl; rfl) | (apply TriM.qYes 5; rfl; rfl; rfl; with_reducible rfl)); kernel_rfl; rfl; rfl; (intro F K hK; apply o_pickT; (iterate 4 rfl); exact hK); (first | (apply TriM.q 6; rfl; rfl) | (apply TriM.qYes 6; rfl; rfl; rfl; with_reducible rfl)); kernel_rfl; rfl; rfl; (intro F K hK; apply o_move; rfl; rfl; exact hK))
  ((with_reducible apply TriM.setb 38 (true)); (case h => rfl); (case hi => rfl))
  ((first | (apply TriM.q 7; rfl; rfl) | (apply TriM.qYes 7; rfl; rfl; rfl; with_reducible rfl)); kernel_rfl; rfl; rfl; (intro F K hK; apply o_move; rfl; rfl; exact hK); (first | (apply TriM.q 8; rfl; rfl) | (apply TriM.qYes 8; rfl; rfl; rfl; with_reducible rfl)); kernel_rfl; rfl; rfl; (intro F K hK; apply o_len; rfl; rfl; exact hK); (first | (apply TriM.q 9; rfl; rfl) | (apply TriM.qYes 9; rfl; rfl; rfl; with_reducible rfl)); kernel_rfl; rfl; rfl; (intro F K hK; apply o_eql; rfl; rfl; rfl; exact hK); (first | (apply TriM.q 10; rfl; rfl) | (apply TriM.qYes 10; rfl; rfl; rfl; with_reducible rfl)); kernel_rfl; rfl; rfl; (intro F K hK; apply o_pickT; (iterate 4 rfl); exact hK); (first | (apply TriM.q 11; rfl; rfl) | (apply TriM.qYes 11; rfl; rfl; rfl; with_reducible rfl)); kernel_rfl; rfl; rfl; (intro F K hK; apply o_move; rfl; rfl; exact hK))
  ((with_reducible apply TriM.setb 43 (true)); (case h => rfl); (case hi => rfl))
  ((first | (apply TriM.q 12; rfl; rfl) | (apply TriM.qYes 12; rfl; rfl; rfl; with_reducible rfl)); kernel_rfl; rfl; rfl; (intro F K hK; apply o_move; rfl; rfl; exact hK); (first | (apply TriM.q 13; rfl; rfl) | (apply TriM.qYes 13; rfl; rfl; rfl; with_reducible rfl)); kernel_rfl; rfl; rfl; (intro F K hK; apply o_eql; rfl; rfl; rfl; exact hK); (first | (apply TriM.q 14; rfl; rfl) | (apply TriM.qYes 14; rfl; rfl; rfl; with_reducible rfl)); kernel_rfl; rfl; rfl; (intro F K hK; apply o_pickT; (iterate 4 rfl); exact hK); (first | (apply TriM.q 15; rfl; rfl) | (apply TriM.qYes 15; rfl; rfl; rfl; with_reducible rfl)); kernel_rfl; rfl; rfl; (intro F K hK; apply o_move; rfl; rfl; exact hK))
  ((with_reducible apply TriM.setb 47 (true)); (case h => rfl); (case hi => rfl))
  ((first | (apply TriM.q 16; rfl; rfl) | (apply TriM.qYes 16; rfl; rfl; rfl; with_reducible rfl)); kernel_rfl; rfl; rfl; (intro F K hK; apply o_move; rfl; rfl; exact hK); (first | (apply TriM.q 18; rfl; rfl) | (apply TriM.qYes 18; rfl; rfl; rfl; with_reducible rfl)); kernel_rfl; rfl; rfl; (intro F K hK; apply o_move; rfl; rfl; exact hK))
  ((first | (apply TriM.q 19; (case ho => rfl); (case hg => rfl)) | (apply TriM.qYes 19; (case ho => rfl); (case hg => rfl); (case hyl => rfl); (case hb => with_reducible rfl))); (case hB => kernel_rfl); (case hd => rfl); (case hn => rfl); (case h => (intro F K hK; (try dsimp only [List.cons_append, List.nil_append]); (apply o_slice (lo := 0) (hi := 3) (m := 9) (xs := EL (bL 1 9)); (case hx => rfl); (case hr => exact rdw_own (v := .slice A 9 c) (by (with_reducible repeat constructor))); (case hol => first | exact fun _ _ => rfl | exact fun a ha => congrArg some (ha.eval rfl)); (case hoh => first | exact fun _ _ => rfl | exact fun a ha => congrArg some (ha.eval rfl)); (case hlo => first | exact .inr ⟨rfl, rfl⟩ | exact .inl ⟨_, rfl⟩ | exact .inl ⟨_, (by congr 2; omega)⟩); (case hhi => first | exact .inr ⟨rfl, rfl⟩ | exact .inl ⟨_, rfl⟩ | exact .inl ⟨_, (by congr 2; omega)⟩); (case hlh => omega); (case hhm => omega); (case hn => rfl)); exact hK)))
  (apply TriM.aY 17; (case ho => rfl); (case hg => rfl); (case hyl => rfl); (case hb => with_reducible rfl); (case hr => kernel_rfl); (try dsimp only [List.cons_append, List.nil_append]))
  ((with_reducible apply o_callR (hs := law13_Back (.slice A2 3 c2) (bL 1 3) (by rw [e3l]; omega))); (case hargs => (repeat first | exact evs.nil | (apply evs.cons; case a => rfl))); (case hpre => exact fun w' hw' => by rw [e3l]; exact rdw_own (v := .slice A2 3 c2) (by (with_reducible repeat constructor)) w' hw'); (case hn => rfl))
  rintro r3 H3 ⟨A3, c3, rfl, rfl⟩
  (try dsimp only [List.cons_append, List.nil_append])
  (apply TriM.back; (case p => (repeat first | with_reducible constructor | constructor)))
  (apply TriM.more [own 103 8 (.slice A3 (bL 1 3).length c3) (bL 1 3).length (EL (bL 1 3))]; (case p => (repeat first | with_reducible constructor | constructor)); (try dsimp only [List.cons_append, List.nil_append]))
  ((first | (apply TriM.q 20; (case ho => rfl); (case hg => rfl)) | (apply TriM.qYes 20; (case ho => rfl); (case hg => rfl); (case hyl => rfl); (case hb => with_reducible rfl))); (case hB => kernel_rfl); (case hd => rfl); (case hn => rfl); (case h => (intro F K hK; (try dsimp only [List.cons_append, List.nil_append]); (with_reducible apply o_callV (hs := ref13_Same (.slice A3 (bL 1 3).length c3) (subv (.slice A 9 c) 8 0 3) (bL 1 3) (by rw [e3l]; omega))); (case hargs => (repeat first | exact evs.nil | (apply evs.cons; case a => rfl))); (case hpre => exact fun w' hw' => ⟨rdw_own (v := .slice A3 (bL 1 3).length c3) (by (with_reducible repeat constructor)) w' hw', by rw [e3l, ← hE]; exact cutE (rdw_own (v := .slice A 9 c) (by (with_reducible repeat constructor)) w' hw') 0 3 (by omega) (by omega)⟩); (case hn => rfl); exact hK)))
  ((first | (apply TriM.q 21; rfl; rfl) | (apply TriM.qYes 21; rfl; rfl; rfl; with_reducible rfl)); kernel_rfl; rfl; rfl; (intro F K hK; apply o_pickT; (iterate 4 rfl); exact hK); (first | (apply TriM.q 22; rfl; rfl) | (apply TriM.qYes 22; rfl; rfl; rfl; with_reducible rfl)); kernel_rfl; rfl; rfl; (intro F K hK; apply o_assign; rfl; rfl; exact hK))
  (apply TriM.nil; (case hr => kernel_rfl); (try dsimp only [List.cons_append, List.nil_append]))
  (refine Tri.thenN (Tri.ret ?_))
  (apply Tri.fin; (case hr => rfl); (case h => exact ResL.cons (Res1.tmp rfl) (ResL.nil)); (apply fin_R (Hn := [])); (case p => exact (by (repeat first | with_reducible constructor | constructor))); exact ⟨by simp only [tupled]; skip, rfl⟩)
end Go.Proofs.Ytckdlfbbkemklaa
end
section
/- walk: the reference's Nodes; Entries: the walk. -/
namespace Go.Proofs.Ytckdlfbbkemklaa
open Go Go.RowKit Go.Gv
set_option linter.unusedVariables false
set_option linter.unusedSimpArgs false

set_option maxHeartbeats 8000000 in
theorem walk_Entries (pv : Option Nat) (a h : Int) : SpecR Try.prog 41 #[.pointer (pv.map fun p => ⟨p, 0, none⟩), rootV a h] (fun _ => True) (fun r H' => ∃ pw b2 b3 : Nat, r = .func (.func 102) #[] [.pointer (some ⟨b2, 0, none⟩), .pointer (some ⟨b3, 0, none⟩)].toArray
    ∧ H' = [blk b2 152 [.pointer (some ⟨pw, 0, none⟩)], blk b3 48 [.int .i64 a, .int .i64 h], blk pw 154 [.pointer (pv.map fun p => ⟨p, 0, none⟩), .int .i64 0]]) := by
  refine SpecR.of (fun w _ => ?_)
  refine Calls.enter Try.func41 rfl rfl rfl (St.rebase w) ?_
  simp only [argSlots]
  (refine Tri.seq (Tri.region ?_); apply Tri.op; rfl)
  (first | (apply o_boxA; (case hx => rfl); (case hn => rfl); intro b3) | (apply o_box1; (case hx => rfl); (case h1 => rfl); (case hn => rfl); intro b3))
  (apply Tri.op; rfl; apply o_assign; rfl; rfl; refine Tri.nil (Tri.thenN (Tri.seq (Tri.region ?_))); apply Tri.op; rfl; apply o_move; rfl; rfl; apply Tri.op; rfl)
  (apply o_build (ys := [.pointer (pv.map fun p => ⟨p, 0, none⟩), .int .i64 0]); (case hp => (repeat first | exact pev.nil | (apply pev.cons; case a => rfl))); (case hf => rfl); (case hn => rfl))
  (apply Tri.op; rfl)
  (first | (apply o_boxA; (case hx => rfl); (case hn => rfl); intro pw) | (apply o_box1; (case hx => rfl); (case h1 => rfl); (case hn => rfl); intro pw))
  (apply Tri.op; rfl)
  (apply o_loadAll (cs := rootL a h); (case hx => rfl); (case p => exact (by (with_reducible repeat constructor))); (case hl => rfl); (case hn => rfl))
  (apply Tri.op; rfl)
  (apply o_callR (hs := walker_entries pw a h); (case hargs => (repeat first | exact evs.nil | (apply evs.cons; case a => rfl))); (case hpre => exact fun _ _ => trivial); (case hn => rfl))
  rintro r2 H2 ⟨b2, b4, rfl, rfl⟩
  (try dsimp only [List.cons_append, List.nil_append])
  (apply Tri.op; rfl; apply o_assign; rfl; rfl; refine Tri.nil (Tri.thenN (Tri.ret ?_)))
  (apply Tri.fin; (case hr => rfl); (case h => (repeat (first | exact ResL.nil | (apply ResL.cons; (case a => (first | exact Res1.tmp rfl | (apply Res1.cell; rfl; (with_reducible repeat constructor); rfl) | (apply Res1.agg; rfl; (with_reducible repeat constructor); rfl; rfl))))))); (apply fin_R (Hn := [blk b2 152 [.pointer (some ⟨pw, 0, none⟩)], blk b4 48 [.int .i64 a, .int .i64 h], blk pw 154 [.pointer (pv.map fun p => ⟨p, 0, none⟩), .int .i64 0]])); (case p => (repeat first | with_reducible constructor | constructor)))
  exact ⟨pw, b2, b4, rfl, rfl⟩
end Go.Proofs.Ytckdlfbbkemklaa
end
section
/- walk: Spans; of no view, or of a root that can't be, an error is told: the walk. -/
namespace Go.Proofs.Ytckdlfbbkemklaa
open Go Go.RowKit Go.Gv
set_option linter.unusedVariables false
set_option linter.unusedSimpArgs false

/-- is an entry of that series whose span meets the range? -/
def inS (s a b : Int) (e : ENT) : Bool := decide (a ≤ b) && decide (e.key.1 = s) && decide (e.key.2 ≤ b) && decide (a ≤ e.fin)
def spF (s a b : Int) (es : List ENT) : List ENT := es.filter (inS s a b)
theorem spF_len (s a b : Int) (es : List ENT) : (spF s a b es).length ≤ es.length := List.length_filter_le _ _
theorem spF_succ {s a b : Int} {es : List ENT} {k : Nat} {e : ENT} (h : es[k]? = some e) : spF s a b (es.take (k + 1)) = if inS s a b e = true then spF s a b (es.take k) ++ [e] else spF s a b (es.take k) := by
  rw [List.take_add_one, h, spF, List.filter_append]
  show _ ++ List.filter (inS s a b) [e] = _
  by_cases q : inS s a b e = true
  · rw [if_pos q, List.filter_cons_of_pos q]; rfl
  · rw [if_neg q, List.filter_cons_of_neg q, List.filter_nil, List.append_nil]; rfl
set_option maxHeartbeats 16000000 in
theorem walk_Spans (pv d : Nat) (v : VS) (hv : v.ok) (hl : v.S.W.length ≤ 1000000) (h : Nat) (a : Int) (hh : h ≤ 5) (hg : h = 0 ∨ wkG v.S h a) (hC : wkC v.S h a ≤ 1000000) (hlen : (wkE v.S h a).length ≤ 1000000) (s lo hi : Int) :
    Gv.Spec Try.prog 43 #[.pointer (some ⟨pv, 0, none⟩), rootV a (h : Int), .int .i64 s, .int .i64 lo, .int .i64 hi] [blk pv 194 (viewL d v), DSK d v.S]
    (fun r H' => ∃ A c, r = .tuple #[.slice A (spF s lo hi (wkE v.S h a)).length c, .int .i64 0] ∧ H' = [blk pv 194 (viewL d v), DSK d v.S, own 100 8 (.slice A (spF s lo hi (wkE v.S h a)).length c) (spF s lo hi (wkE v.S h a)).length (EL (spF s lo hi (wkE v.S h a)))]) := by
  refine Gv.Spec.of (fun w h0 hw => ?_)
  refine Calls.enterM Try.func43 rfl rfl rfl hw ?_
  simp only [argSlots]
  (try dsimp only [List.cons_append, List.nil_append])
  (refine TriR.seq (TriR.region ?_); apply TriR.op; rfl; rfl)
  (first | (apply o_boxA; (case hx => rfl); (case hn => rfl); intro b6) | (apply o_box1; (case hx => rfl); (case h1 => rfl); (case hn => rfl); intro b6))
  (apply TriR.op; rfl; rfl)
  (first | (apply o_boxA; (case hx => rfl); (case hn => rfl); intro b7) | (apply o_box1; (case hx => rfl); (case h1 => rfl); (case hn => rfl); intro b7))
  (apply TriR.op; rfl; rfl)
  (first | (apply o_boxA; (case hx => rfl); (case hn => rfl); intro b8) | (apply o_box1; (case hx => rfl); (case h1 => rfl); (case hn => rfl); intro b8))
  (apply TriR.op; rfl; rfl)
  (first | (apply o_boxA; (case hx => rfl); (case hn => rfl); intro b9) | (apply o_box1; (case hx => rfl); (case h1 => rfl); (case hn => rfl); intro b9))
  (apply TriR.op; rfl; rfl)
  (apply o_alloc; (case hn => rfl); intro b10)
  (apply TriR.op; rfl; rfl)
  (apply o_alloc; (case hn => rfl); intro b11)
  (refine TriR.nil (Tri.thenN (TriR.seq (TriR.region ?_))); apply TriR.op; rfl; rfl)
  (apply o_alloc; (case hn => rfl); intro b12)
  (refine TriR.nil (Tri.thenN (TriR.seq (TriR.seq (TriR.region ?_)))); apply TriR.op; rfl; rfl; apply o_move; rfl; rfl; apply TriR.op; rfl; rfl)
  (apply o_loadAll (cs := rootL a (h : Int)); (case hx => rfl); (case p => exact (by (with_reducible repeat constructor))); (case hl => rfl); (case hn => rfl))
  (apply TriR.op; rfl; rfl)
  (apply o_callR (hs := walk_Entries (some pv) a (h : Int)); (case hargs => (repeat first | exact evs.nil | (apply evs.cons; case a => rfl))); (case hpre => exact fun _ _ => trivial); (case hn => rfl))
  rintro r2 H2 ⟨pw, b2, b3, rfl, rfl⟩
  (try dsimp only [List.cons_append, List.nil_append])
  (refine TriR.nil (Tri.thenN (TriR.block ?_)))
  have hit := entries_iter pw pv d b2 b3 v hv hl h a hh hg 0 (by omega)
  simp only [walkC] at hit
  generalize wkE v.S h a = ES at hit hlen ⊢
  generalize wkC v.S h a = CC at hit ⊢
  generalize wkV v.S h a = VV at hit ⊢
  (with_reducible apply Tri.ownNil 100 8)
  ((with_reducible apply Tri.eqA (A := own 100 8 (.slice none 0 0) 0 []) (B := own 100 8 (.slice none 0 0) 0 (EL []))); (case p => (with_reducible repeat constructor)); (case e => rfl))
  refine TriR.rangeS (α := Σ' (k : Nat) (o : List ENT) (_ : Option Addr) (_ : Nat), k ≤ ES.length ∧ o = spF s lo hi (ES.take k)) (β := Empty) (γ := Nat) (fun x => x.1) (fun y => y.elim)
    (fun x => [blk b12 30 [.slice x.2.2.1 x.2.1.length x.2.2.2.1], own 100 8 (.slice x.2.2.1 x.2.1.length x.2.2.2.1) x.2.1.length (EL x.2.1), blk b7 3 [.int .i64 s], blk b8 2 [.int .i64 lo], blk b9 2 [.int .i64 hi]]) ⟨0, [], none, 0, Nat.zero_le _, rfl⟩ (fun _ => .ret)
    (fun x => [])
    (fun x z => [(7, .pointer (some ⟨b7, 0, none⟩)), (8, .pointer (some ⟨b8, 0, none⟩)), (9, .pointer (some ⟨b9, 0, none⟩)), (12, .pointer (some ⟨b12, 0, none⟩)), (13, .pointer (some ⟨z, 0, none⟩)), (14, .int .i64 0)])
    (fun x z => blk z 100 (entL (ES.getD x.1 ent0)) :: [blk b12 30 [.slice x.2.2.1 x.2.1.length x.2.2.2.1], own 100 8 (.slice x.2.2.1 x.2.1.length x.2.2.2.1) x.2.1.length (EL x.2.1), blk b7 3 [.int .i64 s], blk b8 2 [.int .i64 lo], blk b9 2 [.int .i64 hi]])
    hit rfl rfl (by (repeat (first | exact Pulls.nil | (apply Pulls.cons; (case a => (first | ((repeat (first | with_reducible exact Gv.Pull.head | with_reducible apply Gv.Pull.tail)); done) | (repeat (first | exact Gv.Pull.head | apply Gv.Pull.tail)))))))) ?_ ?_ ?_ ?_ ?_ ?_
  · intro y hy
    obtain ⟨k, _, rfl⟩ := List.mem_map.1 hy
    rfl
  · intro q hq
    simp at hq
    rcases hq with rfl | rfl <;> rfl
  · intro lp x vs hvs hq
    obtain ⟨e, he, rfl⟩ := rowsW_of hvs
    have hed : ES.getD x.1 ent0 = e := by rw [List.getD_eq_getElem?_getD, he]; rfl
    rw [hed]
    simp only [zipL]
    (try dsimp only [List.cons_append, List.nil_append])
    (refine TriR.seq (TriR.region ?_); apply TriR.op; rfl; rfl)
    (apply o_alloc; (case hn => rfl); intro b13)
    (apply TriR.op; rfl; rfl)
    (apply o_storeAll (ys := entL e); (case hx => rfl); (case hy => rfl); (case p => (with_reducible repeat constructor)); (case hl => rfl); (case hc => rfl); (case h1 => exact entL_one5 e))
    (refine TriR.nil (Tri.thenN (TriR.region ?_)); apply TriR.op; rfl; rfl; apply o_assign; rfl; rfl; refine TriR.nil (Tri.thenN ?_))
    (apply Tri.reach (y := b13); (case hL => ((try dsimp only); (repeat (first | exact trivial | refine And.intro (by rfl) ?_)))); (case p => ((try dsimp only); (repeat (first | exact Pulls.nil | (apply Pulls.cons; (case a => (first | ((repeat (first | with_reducible exact Gv.Pull.head | with_reducible apply Gv.Pull.tail)); done) | (repeat (first | exact Gv.Pull.head | apply Gv.Pull.tail))))))))))
  · rintro lp ⟨k, o, A, c, hk, ho⟩ vs hvs b13 hq
    obtain ⟨e, he, rfl⟩ := rowsW_of hvs
    (try dsimp only at he)
    have hed : ES.getD k ent0 = e := by rw [List.getD_eq_getElem?_getD, he]; rfl
    have hkl : k < ES.length := (List.getElem?_eq_some_iff.1 he).1
    have hkl' : k + 1 ≤ ES.length := hkl
    have hsu := spF_succ (s := s) (a := lo) (b := hi) he
    have hol := spF_len s lo hi (ES.take k)
    rw [List.length_take] at hol
    rw [← ho] at hsu hol
    (try dsimp only [List.cons_append, List.nil_append])
    rw [hed]
    have happ : EL o ++ entL e = EL (o ++ [e]) := by rw [EL_app]; simp [EL]
    (refine TriR.block (TriR.block (TriR.seq (TriR.region ?_))); apply TriR.op; rfl; rfl; apply o_move; rfl; rfl; apply TriR.op; rfl; rfl; apply o_neq; rfl; rfl; rfl; apply TriR.op; rfl; rfl; apply o_assign; rfl; rfl; refine TriR.nil (Tri.thenN ?_))
    ((with_reducible apply Tri.setb 20 (false)); (case h => rfl); (case hi => rfl))
    (apply TriR.condF; rfl; rfl; refine TriR.seq (TriR.region ?_); apply TriR.op; rfl; rfl; apply o_fieldAddr; rfl; rfl; apply TriR.op; rfl; rfl; apply o_fieldAddr; rfl; rfl; apply TriR.op; rfl; rfl; apply o_load; rfl; (with_reducible repeat constructor); rfl; rfl; apply TriR.op; rfl; rfl; apply o_load; rfl; (with_reducible repeat constructor); rfl; rfl; apply TriR.op; rfl; rfl; apply o_neq; rfl; rfl; rfl; apply TriR.op; rfl; rfl; apply o_move; rfl; rfl)
    by_cases h1 : e.key.1 = s ∧ lo ≤ hi
    · by_cases h2 : e.key.2 ≤ hi ∧ lo ≤ e.fin
      · have hin : inS s lo hi e = true := by rw [inS, decide_eq_true h1.1, decide_eq_true h1.2, decide_eq_true h2.1, decide_eq_true h2.2]; rfl
        rw [if_pos hin] at hsu
        ((with_reducible apply Tri.setb 30 (false)); (case h => rfl); (case hi => exact decide_eq_false (fun q => q h1.1)))
        (apply TriR.opYes; (iterate 4 rfl); apply o_load; rfl; (with_reducible repeat constructor); rfl; rfl; apply TriR.opYes; (iterate 4 rfl); apply o_load; rfl; (with_reducible repeat constructor); rfl; rfl; apply TriR.opYes; (iterate 4 rfl); apply o_gtr; rfl; rfl; rfl; apply TriR.op; rfl; rfl; apply o_pickF; (iterate 4 rfl); apply TriR.op; rfl; rfl; apply o_assign; rfl; rfl; refine TriR.nil (Tri.thenN ?_))
        ((with_reducible apply Tri.setb 24 (false)); (case h => rfl); (case hi => exact decide_eq_false (by omega)))
        (apply TriR.condF; rfl; rfl; refine TriR.seq (TriR.region ?_); apply TriR.op; rfl; rfl; apply o_fieldAddr; rfl; rfl; apply TriR.op; rfl; rfl; apply o_fieldAddr; rfl; rfl; apply TriR.op; rfl; rfl; apply o_load; rfl; (with_reducible repeat constructor); rfl; rfl; apply TriR.op; rfl; rfl; apply o_load; rfl; (with_reducible repeat constructor); rfl; rfl; apply TriR.op; rfl; rfl; apply o_leq; rfl; rfl; rfl; apply TriR.op; rfl; rfl; apply o_move; rfl; rfl)
        ((with_reducible apply Tri.setb 41 (true)); (case h => rfl); (case hi => exact decide_eq_true h2.1))
        (apply TriR.opYes; (iterate 4 rfl); apply o_fieldAddr; rfl; rfl; apply TriR.opYes; (iterate 4 rfl); apply o_load; rfl; (with_reducible repeat constructor); rfl; rfl; apply TriR.opYes; (iterate 4 rfl); apply o_load; rfl; (with_reducible repeat constructor); rfl; rfl; apply TriR.opYes; (iterate 4 rfl); apply o_geq; rfl; rfl; rfl; apply TriR.op; rfl; rfl; apply o_pickT; (iterate 4 rfl); apply TriR.op; rfl; rfl; apply o_assign; rfl; rfl; refine TriR.nil (Tri.thenN ?_))
        ((with_reducible apply Tri.setb 35 (true)); (case h => rfl); (case hi => exact decide_eq_true (by omega)))
        (apply TriR.condT; rfl; rfl; refine TriR.region ?_; apply TriR.op; rfl; rfl; apply o_load; rfl; (with_reducible repeat constructor); rfl; rfl; apply TriR.op; rfl; rfl)
        (apply o_loadAll (cs := entL e); (case hx => rfl); (case p => exact (by (with_reducible repeat constructor))); (case hl => rfl); (case hn => rfl))
        (apply TriR.op; rfl; rfl)
        (apply o_litSl (ys := entL e); (case hp => (repeat first | exact pev.nil | (apply pev.cons; case a => rfl))); (case hm => rfl); (case hf => rfl); (case hn => rfl); intro vl)
        (apply TriR.op; rfl; rfl)
        (apply o_append (m2 := 1) (news := entL e); (case hx => rfl); (case hy => rfl); (case p => (with_reducible repeat constructor)); (case hr => exact rdw_own (v := vl) (by (with_reducible repeat constructor))); (case hl => rfl); (case h1 => exact entL_one5 e); (case hb => omega); (case hn => rfl))
        intro vr
        (refine Tri.shape (e := 100) (size := 8) (v := vr) (by (with_reducible repeat constructor)) ?_; rintro ⟨A2, c2, rfl⟩)
        (apply TriR.op; rfl; rfl)
        (apply o_store; (case hx => rfl); (case hy => rfl); (case h1 => rfl); (case p => (with_reducible repeat constructor)); (case hi => exact (by decide : 0 < 1)))
        have hlo : (o ++ [e]).length = o.length + 1 := by simp
        ((with_reducible apply Tri.eqA (A := own 100 8 (.slice A2 (o.length + 1) c2) _ _) (B := own 100 8 (.slice A2 (o ++ [e]).length c2) (o ++ [e]).length (EL (o ++ [e])))); (case p => (with_reducible repeat constructor)); (case e => (rw [happ, hlo])))
        ((with_reducible apply Tri.eqA (A := blk b12 _ _) (B := blk b12 30 [.slice A2 (o ++ [e]).length c2])); (case p => (with_reducible repeat constructor)); (case e => (rw [hlo]; rfl)))
        (refine TriR.nil (Tri.blockN (Tri.blockN ?_)))
        (apply Tri.rdEndS (y := ⟨k + 1, o ++ [e], A2, c2, hkl', hsu.symm⟩); (case hk => rfl); (case p => ((try dsimp only [List.cons_append, List.nil_append]); (repeat first | with_reducible constructor | constructor))))
      · have hin : ¬ inS s lo hi e = true := by
          intro q
          rw [inS, Bool.and_eq_true, Bool.and_eq_true, decide_eq_true_eq, decide_eq_true_eq] at q
          exact h2 ⟨q.1.2, q.2⟩
        rw [if_neg hin] at hsu
        ((with_reducible apply Tri.setb 30 (false)); (case h => rfl); (case hi => exact decide_eq_false (fun q => q h1.1)))
        (apply TriR.opYes; (iterate 4 rfl); apply o_load; rfl; (with_reducible repeat constructor); rfl; rfl; apply TriR.opYes; (iterate 4 rfl); apply o_load; rfl; (with_reducible repeat constructor); rfl; rfl; apply TriR.opYes; (iterate 4 rfl); apply o_gtr; rfl; rfl; rfl; apply TriR.op; rfl; rfl; apply o_pickF; (iterate 4 rfl); apply TriR.op; rfl; rfl; apply o_assign; rfl; rfl; refine TriR.nil (Tri.thenN ?_))
        ((with_reducible apply Tri.setb 24 (false)); (case h => rfl); (case hi => exact decide_eq_false (by omega)))
        (apply TriR.condF; rfl; rfl; refine TriR.seq (TriR.region ?_); apply TriR.op; rfl; rfl; apply o_fieldAddr; rfl; rfl; apply TriR.op; rfl; rfl; apply o_fieldAddr; rfl; rfl; apply TriR.op; rfl; rfl; apply o_load; rfl; (with_reducible repeat constructor); rfl; rfl; apply TriR.op; rfl; rfl; apply o_load; rfl; (with_reducible repeat constructor); rfl; rfl; apply TriR.op; rfl; rfl; apply o_leq; rfl; rfl; rfl; apply TriR.op; rfl; rfl; apply o_move; rfl; rfl)
        by_cases h3 : e.key.2 ≤ hi
        · ((with_reducible apply Tri.setb 41 (true)); (case h => rfl); (case hi => exact decide_eq_true h3))
          (apply TriR.opYes; (iterate 4 rfl); apply o_fieldAddr; rfl; rfl; apply TriR.opYes; (iterate 4 rfl); apply o_load; rfl; (with_reducible repeat constructor); rfl; rfl; apply TriR.opYes; (iterate 4 rfl); apply o_load; rfl; (with_reducible repeat constructor); rfl; rfl; apply TriR.opYes; (iterate 4 rfl); apply o_geq; rfl; rfl; rfl; apply TriR.op; rfl; rfl; apply o_pickT; (iterate 4 rfl); apply TriR.op; rfl; rfl; apply o_assign; rfl; rfl; refine TriR.nil (Tri.thenN ?_))
          ((with_reducible apply Tri.setb 35 (false)); (case h => rfl); (case hi => exact decide_eq_false (by omega)))
          (apply TriR.condF; rfl; rfl; refine TriR.skip (Tri.blockN (Tri.blockN ?_)))
          (apply Tri.rdEndS (y := ⟨k + 1, o, A, c, hkl', hsu.symm⟩); (case hk => rfl); (case p => ((try dsimp only [List.cons_append, List.nil_append]); (repeat first | with_reducible constructor | constructor))))
        · ((with_reducible apply Tri.setb 41 (false)); (case h => rfl); (case hi => exact decide_eq_false h3))
          ((iterate 4 apply TriR.opNo (c := false); (iterate 6 rfl)); apply TriR.op; rfl; rfl; apply o_pickF; (iterate 4 rfl); apply TriR.op; rfl; rfl; apply o_assign; rfl; rfl; refine TriR.nil (Tri.thenN ?_); apply TriR.condF; rfl; rfl; refine TriR.skip (Tri.blockN (Tri.blockN ?_)))
          (apply Tri.rdEndS (y := ⟨k + 1, o, A, c, hkl', hsu.symm⟩); (case hk => rfl); (case p => ((try dsimp only [List.cons_append, List.nil_append]); (repeat first | with_reducible constructor | constructor))))
    · have hin : ¬ inS s lo hi e = true := by
        intro q
        rw [inS, Bool.and_eq_true, Bool.and_eq_true, Bool.and_eq_true, decide_eq_true_eq, decide_eq_true_eq] at q
        exact h1 ⟨q.1.1.2, q.1.1.1⟩
      rw [if_neg hin] at hsu
      by_cases h3 : e.key.1 = s
      · ((with_reducible apply Tri.setb 30 (false)); (case h => rfl); (case hi => exact decide_eq_false (fun q => q h3)))
        (apply TriR.opYes; (iterate 4 rfl); apply o_load; rfl; (with_reducible repeat constructor); rfl; rfl; apply TriR.opYes; (iterate 4 rfl); apply o_load; rfl; (with_reducible repeat constructor); rfl; rfl; apply TriR.opYes; (iterate 4 rfl); apply o_gtr; rfl; rfl; rfl; apply TriR.op; rfl; rfl; apply o_pickF; (iterate 4 rfl); apply TriR.op; rfl; rfl; apply o_assign; rfl; rfl; refine TriR.nil (Tri.thenN ?_))
        ((with_reducible apply Tri.setb 24 (true)); (case h => rfl); (case hi => exact decide_eq_true (by omega)))
        (apply TriR.condT; rfl; rfl; refine TriR.skip (Tri.blockN (Tri.blockN ?_)))
        (apply Tri.rdEndS (y := ⟨k + 1, o, A, c, hkl', hsu.symm⟩); (case hk => rfl); (case p => ((try dsimp only [List.cons_append, List.nil_append]); (repeat first | with_reducible constructor | constructor))))
      · ((with_reducible apply Tri.setb 30 (true)); (case h => rfl); (case hi => exact decide_eq_true h3))
        ((iterate 3 apply TriR.opNo (c := true); (iterate 6 rfl)); apply TriR.op; rfl; rfl; apply o_pickT; (iterate 4 rfl); apply TriR.op; rfl; rfl; apply o_assign; rfl; rfl; refine TriR.nil (Tri.thenN ?_); apply TriR.condT; rfl; rfl; refine TriR.skip (Tri.blockN (Tri.blockN ?_)))
        (apply Tri.rdEndS (y := ⟨k + 1, o, A, c, hkl', hsu.symm⟩); (case hk => rfl); (case p => ((try dsimp only [List.cons_append, List.nil_append]); (repeat first | with_reducible constructor | constructor))))
  · rintro D ⟨k, o, A, c, hk, ho⟩ hy
    have hkE : k = ES.length := by rw [← rowsW_length ES]; exact hy
    have htk2 : ES.take k = ES := List.take_of_length_le (by omega)
    rw [htk2] at ho
    subst ho
    (try dsimp only [List.cons_append, List.nil_append])
    (refine Tri.blockN (Tri.thenN (TriR.seq (TriR.region ?_))); apply TriR.op; rfl; rfl; apply o_load; rfl; (with_reducible repeat constructor); rfl; rfl; apply TriR.op; rfl; rfl; apply o_store; rfl; rfl; rfl; (with_reducible repeat constructor); (exact Nat.le_of_ble_eq_true rfl); apply TriR.op; rfl; rfl; apply o_store; rfl; rfl; rfl; (with_reducible repeat constructor); (exact Nat.le_of_ble_eq_true rfl); refine TriR.nil (Tri.thenN (TriR.ret ?_)))
    (apply Tri.finM1; (case p => (with_reducible repeat constructor)); (case hr => rfl); (case h => exact ResL.cons (Res1.cell rfl (by (with_reducible repeat constructor)) rfl) (ResL.cons (Res1.cell rfl (by (with_reducible repeat constructor)) rfl) (ResL.nil))); (apply fin_R (Hn := [blk pv 194 (viewL d v), DSK d v.S, own 100 8 (.slice A (spF s lo hi ES).length c) (spF s lo hi ES).length (EL (spF s lo hi ES))])); (case p => exact (by (repeat first | with_reducible constructor | constructor))); exact ⟨A, c, rfl, rfl⟩)
  · rintro D y
    exact y.elim
end Go.Proofs.Ytckdlfbbkemklaa
end
section
/- walk: of no view, or of a root that can't be, an error is told: the walk. -/
namespace Go.Proofs.Ytckdlfbbkemklaa
open Go Go.RowKit Go.Gv
set_option linter.unusedVariables false
set_option linter.unusedSimpArgs false

set_option maxHeartbeats 8000000 in
theorem walk_Spans_bad (pv : Option Nat) (a h : Int) (hb : pv = none ∨ h < 0 ∨ 5 < h) (s lo hi : Int) : SpecR Try.prog 43 #[.pointer (pv.map fun p => ⟨p, 0, none⟩), rootV a h, .int .i64 s, .int .i64 lo, .int .i64 hi] (fun _ => True) (fun r H' => r = .tuple #[.slice none 0 0, .int .i64 1] ∧ H' = []) := by
  refine SpecR.of (fun w _ => ?_)
  refine Calls.enterM Try.func43 rfl rfl rfl (St.rebase w) ?_
  simp only [argSlots]
  (try dsimp only [List.cons_append, List.nil_append])
  (refine TriR.seq (TriR.region ?_); apply TriR.op; rfl; rfl)
  (first | (apply o_boxA; (case hx => rfl); (case hn => rfl); intro b6) | (apply o_box1; (case hx => rfl); (case h1 => rfl); (case hn => rfl); intro b6))
  (apply TriR.op; rfl; rfl)
  (first | (apply o_boxA; (case hx => rfl); (case hn => rfl); intro b7) | (apply o_box1; (case hx => rfl); (case h1 => rfl); (case hn => rfl); intro b7))
  (apply TriR.op; rfl; rfl)
  (first | (apply o_boxA; (case hx => rfl); (case hn => rfl); intro b8) | (apply o_box1; (case hx => rfl); (case h1 => rfl); (case hn => rfl); intro b8))
  (apply TriR.op; rfl; rfl)
  (first | (apply o_boxA; (case hx => rfl); (case hn => rfl); intro b9) | (apply o_box1; (case hx => rfl); (case h1 => rfl); (case hn => rfl); intro b9))
  (apply TriR.op; rfl; rfl)
  (apply o_alloc; (case hn => rfl); intro br)
  (apply TriR.op; rfl; rfl)
  (apply o_alloc; (case hn => rfl); intro be)
  (refine TriR.nil (Tri.thenN (TriR.seq (TriR.region ?_))); apply TriR.op; rfl; rfl)
  (apply o_alloc; (case hn => rfl); intro bo)
  (refine TriR.nil (Tri.thenN (TriR.seq (TriR.seq (TriR.region ?_)))); apply TriR.op; rfl; rfl; apply o_move; rfl; rfl; apply TriR.op; rfl; rfl)
  (apply o_loadAll (cs := rootL a h); (case hx => rfl); (case p => exact (by (with_reducible repeat constructor))); (case hl => rfl); (case hn => rfl))
  (apply TriR.op; rfl; rfl)
  (apply o_callR (hs := walk_Entries pv a h); (case hargs => (repeat first | exact evs.nil | (apply evs.cons; case a => rfl))); (case hpre => exact fun _ _ => trivial); (case hn => rfl))
  rintro r2 H2 ⟨pw, b2, b3, rfl, rfl⟩
  (try dsimp only [List.cons_append, List.nil_append])
  (refine TriR.nil (Tri.thenN (TriR.block ?_)))
  have hit := entries_bad pw b2 b3 pv a h 0 hb
  refine TriR.rangeS (α := { k : Nat // k = 0 }) (β := Unit) (γ := Nat) (fun x => x.1) (fun _ => 0) (fun _ => [blk br 30 [.slice none 0 0], blk be 44 [.int .i64 0]]) ⟨0, rfl⟩ (fun _ => .ret) (fun _ => [blk br 30 [.slice none 0 0], blk be 44 [.int .i64 1]])
    (fun _ z => [(10, .pointer (some ⟨br, 0, none⟩)), (11, .pointer (some ⟨be, 0, none⟩)), (13, .pointer (some ⟨z, 0, none⟩)), (14, .int .i64 1)])
    (fun _ z => blk z 100 (entL ent0) :: [blk br 30 [.slice none 0 0], blk be 44 [.int .i64 0]])
    hit rfl rfl (by (repeat first | with_reducible constructor | constructor)) ?_ ?_ ?_ ?_ ?_ ?_
  · intro y hy
    simp at hy
    subst hy
    rfl
  · intro q hq
    simp at hq
    rcases hq with rfl | rfl <;> rfl
  · rintro lp ⟨x, rfl⟩ vs hvs hq
    cases hvs
    simp only [zipL]
    (try dsimp only [List.cons_append, List.nil_append])
    (refine TriR.seq (TriR.region ?_); apply TriR.op; rfl; rfl)
    (apply o_alloc; (case hn => rfl); intro bz)
    (apply TriR.op; rfl; rfl)
    (apply o_storeAll (ys := entL ent0); (case hx => rfl); (case hy => rfl); (case p => (with_reducible repeat constructor)); (case hl => rfl); (case hc => rfl); (case h1 => exact entL_one5 ent0))
    (refine TriR.nil (Tri.thenN (TriR.region ?_)); apply TriR.op; rfl; rfl; apply o_assign; rfl; rfl; refine TriR.nil (Tri.thenN ?_))
    (apply Tri.reach (y := bz); (case hL => ((try dsimp only); (repeat (first | exact trivial | refine And.intro (by rfl) ?_)))); (case p => ((try dsimp only); (repeat (first | exact Pulls.nil | (apply Pulls.cons; (case a => (first | ((repeat (first | with_reducible exact Gv.Pull.head | with_reducible apply Gv.Pull.tail)); done) | (repeat (first | exact Gv.Pull.head | apply Gv.Pull.tail))))))))))
  · rintro lp ⟨x, rfl⟩ vs hvs bz hq
    cases hvs
    (try dsimp only [List.cons_append, List.nil_append])
    (refine TriR.block (TriR.block (TriR.seq (TriR.region ?_))); apply TriR.op; rfl; rfl; apply o_move; rfl; rfl; apply TriR.op; rfl; rfl; apply o_neq; rfl; rfl; rfl; apply TriR.op; rfl; rfl; apply o_assign; rfl; rfl; refine TriR.nil (Tri.thenN ?_))
    ((with_reducible apply Tri.setb 20 (true)); (case h => rfl); (case hi => rfl))
    (apply TriR.condT; rfl; rfl; refine TriR.seq (TriR.region ?_); apply TriR.op; rfl; rfl; apply o_move; rfl; rfl; apply TriR.op; rfl; rfl)
    (apply o_store; (case hx => rfl); (case hy => rfl); (case h1 => rfl); (case p => (with_reducible repeat constructor)); (case hi => exact (by decide : 0 < 1)))
    (apply TriR.op; rfl; rfl)
    (apply o_store; (case hx => rfl); (case hy => rfl); (case h1 => rfl); (case p => (with_reducible repeat constructor)); (case hi => exact (by decide : 0 < 1)))
    ((with_reducible apply Tri.eqA (A := blk br _ _) (B := blk br 30 [.slice none 0 0])); (case p => (with_reducible repeat constructor)); (case e => rfl))
    ((with_reducible apply Tri.eqA (A := blk be _ _) (B := blk be 44 [.int .i64 1])); (case p => (with_reducible repeat constructor)); (case e => rfl))
    (refine TriR.nil (Tri.thenN (TriR.ret (Tri.blockR (Tri.blockR ?_)))))
    (apply Tri.rdRetS (y := ()); (case hj => exact ⟨rfl, rfl⟩); (case p => ((try dsimp only [List.cons_append, List.nil_append]); (repeat first | with_reducible constructor | constructor))))
  · rintro D ⟨x, rfl⟩ hy
    exact absurd hy (by simp)
  · rintro D y hy
    (try dsimp only [List.cons_append, List.nil_append])
    (refine TriR.ret (Tri.blockR (Tri.thenR ?_)))
    (apply Tri.finM1; (case p => (with_reducible repeat constructor)); (case hr => rfl); (case h => exact ResL.cons (Res1.cell rfl (by (with_reducible repeat constructor)) rfl) (ResL.cons (Res1.cell rfl (by (with_reducible repeat constructor)) rfl) (ResL.nil))); (apply fin_R (Hn := [])); (case p => exact (by (repeat first | with_reducible constructor | constructor))); exact ⟨rfl, rfl⟩)
set_option maxHeartbeats 8000000 in
theorem walk_Series_bad (pv : Option Nat) (a h : Int) (hb : pv = none ∨ h < 0 ∨ 5 < h) : SpecR Try.prog 40 #[.pointer (pv.map fun p => ⟨p, 0, none⟩), rootV a h] (fun _ => True) (fun r H' => r = .tuple #[.slice none 0 0, .int .i64 1] ∧ H' = []) := by
  refine SpecR.of (fun w _ => ?_)
  refine Calls.enterM Try.func40 rfl rfl rfl (St.rebase w) ?_
  simp only [argSlots]
  (try dsimp only [List.cons_append, List.nil_append])
  (refine TriR.seq (TriR.region ?_); apply TriR.op; rfl; rfl)
  (first | (apply o_boxA; (case hx => rfl); (case hn => rfl); intro b3x) | (apply o_box1; (case hx => rfl); (case h1 => rfl); (case hn => rfl); intro b3x))
  (apply TriR.op; rfl; rfl)
  (apply o_alloc; (case hn => rfl); intro br)
  (apply TriR.op; rfl; rfl)
  (apply o_alloc; (case hn => rfl); intro be)
  (refine TriR.nil (Tri.thenN (TriR.seq (TriR.region ?_))); apply TriR.op; rfl; rfl)
  (apply o_alloc; (case hn => rfl); intro bo)
  (refine TriR.nil (Tri.thenN (TriR.seq (TriR.seq (TriR.region ?_)))); apply TriR.op; rfl; rfl; apply o_move; rfl; rfl; apply TriR.op; rfl; rfl)
  (apply o_loadAll (cs := rootL a h); (case hx => rfl); (case p => exact (by (with_reducible repeat constructor))); (case hl => rfl); (case hn => rfl))
  (apply TriR.op; rfl; rfl)
  (apply o_callR (hs := walk_Entries pv a h); (case hargs => (repeat first | exact evs.nil | (apply evs.cons; case a => rfl))); (case hpre => exact fun _ _ => trivial); (case hn => rfl))
  rintro r2 H2 ⟨pw, b2, b3, rfl, rfl⟩
  (try dsimp only [List.cons_append, List.nil_append])
  (refine TriR.nil (Tri.thenN (TriR.block ?_)))
  have hit := entries_bad pw b2 b3 pv a h 0 hb
  refine TriR.rangeS (α := { k : Nat // k = 0 }) (β := Unit) (γ := Nat) (fun x => x.1) (fun _ => 0) (fun _ => [blk br 24 [.slice none 0 0], blk be 44 [.int .i64 0]]) ⟨0, rfl⟩ (fun _ => .ret) (fun _ => [blk br 24 [.slice none 0 0], blk be 44 [.int .i64 1]])
    (fun _ z => [(4, .pointer (some ⟨br, 0, none⟩)), (5, .pointer (some ⟨be, 0, none⟩)), (7, .pointer (some ⟨z, 0, none⟩)), (8, .int .i64 1)])
    (fun _ z => blk z 100 (entL ent0) :: [blk br 24 [.slice none 0 0], blk be 44 [.int .i64 0]])
    hit rfl rfl (by (repeat first | with_reducible constructor | constructor)) ?_ ?_ ?_ ?_ ?_ ?_
  · intro y hy
    simp at hy
    subst hy
    rfl
  · intro q hq
    simp at hq
    rcases hq with rfl | rfl <;> rfl
  · rintro lp ⟨x, rfl⟩ vs hvs hq
    cases hvs
    simp only [zipL]
    (try dsimp only [List.cons_append, List.nil_append])
    (refine TriR.seq (TriR.region ?_); apply TriR.op; rfl; rfl)
    (apply o_alloc; (case hn => rfl); intro bz)
    (apply TriR.op; rfl; rfl)
    (apply o_storeAll (ys := entL ent0); (case hx => rfl); (case hy => rfl); (case p => (with_reducible repeat constructor)); (case hl => rfl); (case hc => rfl); (case h1 => exact entL_one5 ent0))
    (refine TriR.nil (Tri.thenN (TriR.region ?_)); apply TriR.op; rfl; rfl; apply o_assign; rfl; rfl; refine TriR.nil (Tri.thenN ?_))
    (apply Tri.reach (y := bz); (case hL => ((try dsimp only); (repeat (first | exact trivial | refine And.intro (by rfl) ?_)))); (case p => ((try dsimp only); (repeat (first | exact Pulls.nil | (apply Pulls.cons; (case a => (first | ((repeat (first | with_reducible exact Gv.Pull.head | with_reducible apply Gv.Pull.tail)); done) | (repeat (first | exact Gv.Pull.head | apply Gv.Pull.tail))))))))))
  · rintro lp ⟨x, rfl⟩ vs hvs bz hq
    cases hvs
    (try dsimp only [List.cons_append, List.nil_append])
    (refine TriR.block (TriR.seq (TriR.seq (TriR.region ?_))); apply TriR.op; rfl; rfl; apply o_move; rfl; rfl; apply TriR.op; rfl; rfl; apply o_neq; rfl; rfl; rfl; refine TriR.nil (Tri.thenN ?_))
    ((with_reducible apply Tri.setb 15 (true)); (case h => rfl); (case hi => rfl))
    (apply TriR.condT; rfl; rfl; refine TriR.seq (TriR.region ?_); apply TriR.op; rfl; rfl; apply o_move; rfl; rfl; apply TriR.op; rfl; rfl)
    (apply o_store; (case hx => rfl); (case hy => rfl); (case h1 => rfl); (case p => (with_reducible repeat constructor)); (case hi => exact (by decide : 0 < 1)))
    (apply TriR.op; rfl; rfl)
    (apply o_store; (case hx => rfl); (case hy => rfl); (case h1 => rfl); (case p => (with_reducible repeat constructor)); (case hi => exact (by decide : 0 < 1)))
    ((with_reducible apply Tri.eqA (A := blk br _ _) (B := blk br 24 [.slice none 0 0])); (case p => (with_reducible repeat constructor)); (case e => rfl))
    ((with_reducible apply Tri.eqA (A := blk be _ _) (B := blk be 44 [.int .i64 1])); (case p => (with_reducible repeat constructor)); (case e => rfl))
    (refine TriR.nil (Tri.thenN (TriR.ret (Tri.thenR (Tri.blockR ?_)))))
    (apply Tri.rdRetS (y := ()); (case hj => exact ⟨rfl, rfl⟩); (case p => ((try dsimp only [List.cons_append, List.nil_append]); (repeat first | with_reducible constructor | constructor))))
  · rintro D ⟨x, rfl⟩ hy
    exact absurd hy (by simp)
  · rintro D y hy
    (try dsimp only [List.cons_append, List.nil_append])
    (refine TriR.ret (Tri.blockR (Tri.thenR ?_)))
    (apply Tri.finM1; (case p => (with_reducible repeat constructor)); (case hr => rfl); (case h => exact ResL.cons (Res1.cell rfl (by (with_reducible repeat constructor)) rfl) (ResL.cons (Res1.cell rfl (by (with_reducible repeat constructor)) rfl) (ResL.nil))); (apply fin_R (Hn := [])); (case p => exact (by (repeat first | with_reducible constructor | constructor))); exact ⟨rfl, rfl⟩)
end Go.Proofs.Ytckdlfbbkemklaa
end
section
/- walk: levels of a tree that is loaded, for the reference's Nodes; series of layer 14's entries. -/
namespace Go.Proofs.Ytckdlfbbkemklaa
open Go Go.RowKit Go.Gv
set_option linter.unusedVariables false
set_option linter.unusedSimpArgs false

structure Levs (H m : Nat) : Prop where
  h4 : H ≤ 4
  last : m ≠ 0 → (m - 1) / capN H = 0
  big : m ≠ 0 → ∀ i, i < H → 1 ≤ (m - 1) / capN i
end Go.Proofs.Ytckdlfbbkemklaa
end
section
/- From a law's walk to its row: what the row's frame asks. -/
namespace Go.Gv
open Go Go.RowKit
set_option linter.unusedVariables false

theorem below_of_st {w w' : World} {H : List Atom} (h : St w w' (H ++ [Ex (hp w)])) : Below w.heap.size w w' :=
  ⟨h.1.os, h.1.tape, h.1.output, h.1.size, (Sat.exhp (av := fun _ => True) h.2).1⟩

/-- what a law's walk shows -/
def LawR (w : World) : Value → World → Prop := fun v w' => ∃ H', (fun v (_ : List Atom) => v = .bool true) v H' ∧ St w w' (H' ++ [Ex (hp w)])

theorem law_calls {P : Program} {f : FuncId} {args : Array Value} {w : World} (h : Calls P f args w (Ret (LawR w))) : Calls P f args w fun e w' => e = .returned (.bool true) ∧ Below w.heap.size w w' :=
  h.mono fun e w' he => by
    cases e with
    | returned v => obtain ⟨H', rfl, hs⟩ := he; exact ⟨rfl, below_of_st hs⟩
    | panicked c => exact he.elim
    | outgrown => exact he.elim

theorem fin_law {H R F : List Atom} (w : World) (p : Pulls H (F ++ [Ex (hp w)]) R) (v : Value) (hv : v = .bool true) : ∀ w', St w w' H → LawR w v w' := fun w' hw => ⟨F, hv, (hw.pulls p).1, Sat.left (hw.pulls p).2⟩

end Go.Gv
end
