import Derived.Test.YtckdlfbbkemklaaZSpWalk3
/- super: Newest. -/
namespace Go.Proofs.Ytckdlfbbkemklaa
open Go Go.RowKit Go.Gv
set_option linter.unusedVariables false
set_option linter.unusedSimpArgs false

theorem nwTo_succ (S : DS) (k : Nat) : nwTo S (k + 1) = if (nwTo S k).2 ≠ 0 then nwTo S k else if (rdS S k).2.2 ≠ 0 then (zeroS, (rdS S k).2.2) else if (rdS S k).2.1 = true ∧ (nwTo S k).1.gen < (rdS S k).1.gen then ((rdS S k).1, 0) else nwTo S k := rfl
theorem nwTo_err {S : DS} {j : Nat} (hj : j ≤ 2) (h : (nwTo S j).2 ≠ 0) : nwTo S 2 = nwTo S j := by
  match j, hj with
  | 0, _ => exact absurd rfl h
  | 1, _ => rw [nwTo_succ, if_pos h]
  | 2, _ => rfl
set_option maxHeartbeats 8000000 in
theorem super_Newest (p : Nat) (S : DS) (hS : S.ok) (hl : S.W.length ≤ 1000000) :
    Gv.Spec Try.prog 28 #[tabV, .pointer (some ⟨p, 0, none⟩)] [DSK p S]
    (fun r H' => r = .tuple #[spV (nwS S).1, .int .i64 ((nwS S).2 : Int)] ∧ H' = [DSK p S]) := by
  refine Gv.Spec.of (fun w h0 hw => ?_)
  refine Calls.enter Try.func28 rfl rfl rfl hw ?_
  simp only [argSlots]
  (try dsimp only [List.cons_append, List.nil_append])
  ((with_reducible refine Tri.seq (Tri.region ?_)); (with_reducible apply Tri.op); rfl)
  (first | ((with_reducible apply o_boxA); (case hx => rfl); (case hn => rfl); intro b2) | ((with_reducible apply o_box1); (case hx => rfl); (case h1 => rfl); (case hn => rfl); intro b2))
  ((with_reducible apply Tri.op); rfl)
  ((with_reducible apply o_alloc); (case hn => rfl); intro b4)
  ((with_reducible apply Tri.op); rfl; (with_reducible apply o_assign); rfl; rfl; (with_reducible refine Tri.nil (Tri.thenN (Tri.seq (Tri.region ?_)))); (with_reducible apply Tri.op); rfl)
  ((with_reducible apply o_alloc); (case hn => rfl); intro b6)
  ((with_reducible refine Tri.nil (Tri.thenN (Tri.seq (Tri.seq (Tri.region ?_))))); (with_reducible apply Tri.op); rfl; (with_reducible apply o_move); rfl; rfl; (with_reducible refine Tri.nil (Tri.thenN (Tri.block ?_))))
  ((first | with_reducible apply Tri.loop (α := { k : Nat // k ≤ 2 ∧ (nwTo S k).2 = 0 }) (m := fun x => 2 - x.1) (Lx := fun x => [(1, .pointer (some ⟨p, 0, none⟩)), (2, .pointer (some ⟨b2, 0, none⟩)), (4, .pointer (some ⟨b4, 0, none⟩)), (6, .pointer (some ⟨b6, 0, none⟩)), (11, .int .i64 (x.1 : Int))]) (Hx := fun x => [blk b6 50 (spL (nwTo S x.1).1), blk b4 50 (spL zeroS), DSK p S, blk b2 63 tabL, Ex h0]) (x0 := ⟨0, Nat.zero_le _, rfl⟩) | with_reducible apply TriR.loop (α := { k : Nat // k ≤ 2 ∧ (nwTo S k).2 = 0 }) (m := fun x => 2 - x.1) (Lx := fun x => [(1, .pointer (some ⟨p, 0, none⟩)), (2, .pointer (some ⟨b2, 0, none⟩)), (4, .pointer (some ⟨b4, 0, none⟩)), (6, .pointer (some ⟨b6, 0, none⟩)), (11, .int .i64 (x.1 : Int))]) (Hx := fun x => [blk b6 50 (spL (nwTo S x.1).1), blk b4 50 (spL zeroS), DSK p S, blk b2 63 tabL, Ex h0]) (x0 := ⟨0, Nat.zero_le _, rfl⟩)); (case hL => ((try dsimp only); (repeat (first | exact trivial | refine And.intro (by rfl) ?_)))); (case hH => ((try dsimp only); apply St.all; (repeat (first | exact Pulls.nil | (apply Pulls.cons; (case a => (first | ((repeat (first | with_reducible exact Gv.Pull.head | with_reducible apply Gv.Pull.tail)); done) | (repeat (first | exact Gv.Pull.head | apply Gv.Pull.tail)))))))))); (rintro ⟨k, hk, hz⟩ mx hmx; (try dsimp only at hmx ⊢))
  ((with_reducible refine Tri.seq (Tri.region ?_)); (with_reducible apply Tri.op); rfl; (with_reducible apply o_lss); rfl; rfl; rfl; (with_reducible refine Tri.nil (Tri.thenN (Tri.seq ?_))))
  ((first | with_reducible apply Tri.condD | with_reducible apply TriR.condD); (case hc => rfl); (all_goals intro h))
  · have hn := nwTo_succ S k
    rw [if_neg (by rw [hz]; simp)] at hn
    ((with_reducible refine Tri.skip (Tri.thenN (Tri.seq (Tri.block (Tri.seq (Tri.region ?_)))))); (with_reducible apply Tri.op); rfl; (with_reducible apply o_move); rfl; rfl; (with_reducible apply Tri.op); rfl; (with_reducible apply o_assign); rfl; rfl; (with_reducible refine Tri.nil (Tri.thenN (Tri.seq (Tri.region ?_)))); (with_reducible apply Tri.op); rfl)
    ((with_reducible apply o_loadAll); (case hx => rfl); (case p => (first | ((repeat (first | with_reducible exact Pull.head | with_reducible apply Pull.tail)); done) | (repeat (first | exact Pull.head | apply Pull.tail)))); (case hl => exact tabL_length); (case hn => rfl))
    ((with_reducible apply Tri.op); rfl; (with_reducible apply o_move); rfl; rfl; (with_reducible apply Tri.op); rfl; (with_reducible apply o_move); rfl; rfl; (with_reducible apply Tri.op); rfl)
    ((with_reducible apply o_callS (hs := super_read p S k (by omega) hS hl)); (case hargs => (repeat first | exact evs.nil | (apply evs.cons; case a => rfl))); (case p => (repeat (first | exact Pulls.nil | (apply Pulls.cons; (case a => (first | ((repeat (first | with_reducible exact Gv.Pull.head | with_reducible apply Gv.Pull.tail)); done) | (repeat (first | exact Gv.Pull.head | apply Gv.Pull.tail)))))))); (case hn => rfl))
    rintro r1 H1 ⟨rfl, rfl⟩
    (try dsimp only [List.cons_append, List.nil_append])
    obtain ⟨R, hR⟩ : ∃ R, R = rdS S k := ⟨_, rfl⟩
    rw [← hR] at hn ⊢
    obtain ⟨s, b, e⟩ := R
    dsimp only at hn ⊢
    ((with_reducible apply Tri.op); rfl; (with_reducible apply o_move); rfl; rfl; (with_reducible apply Tri.op); rfl; (with_reducible apply o_extract); rfl; rfl; rfl; (with_reducible apply Tri.op); rfl; (with_reducible apply o_extract); rfl; rfl; rfl; (with_reducible apply Tri.op); rfl; (with_reducible apply o_extract); rfl; rfl; rfl; (with_reducible apply Tri.op); rfl)
    ((with_reducible apply o_alloc); (case hn => rfl); intro b8)
    ((with_reducible apply Tri.op); rfl)
    ((with_reducible apply o_storeAll (ys := spL s)); (case hx => rfl); (case hy => rfl); (case p => (first | ((repeat (first | with_reducible exact Pull.head | with_reducible apply Pull.tail)); done) | (repeat (first | exact Pull.head | apply Pull.tail)))); (case hl => rfl); (case hc => rfl); (case h1 => exact spL_one s))
    ((with_reducible apply Tri.op); rfl; (with_reducible apply o_assign); rfl; rfl; (with_reducible apply Tri.op); rfl; (with_reducible apply o_assign); rfl; rfl; (with_reducible refine Tri.nil (Tri.thenN (Tri.seq (Tri.seq (Tri.region ?_))))); (with_reducible apply Tri.op); rfl; (with_reducible apply o_move); rfl; rfl; (with_reducible apply Tri.op); rfl; (with_reducible apply o_neq); rfl; rfl; rfl; (with_reducible refine Tri.nil (Tri.thenN ?_)))
    by_cases he : e = 0
    · subst he
      rw [if_neg (by simp)] at hn
      ((with_reducible apply Tri.setb 23 (false)); (case h => rfl); (case hi => rfl))
      ((with_reducible apply Tri.condF); rfl; rfl; (with_reducible refine Tri.skip (Tri.thenN (Tri.seq (Tri.region ?_)))); (with_reducible apply Tri.op); rfl; (with_reducible apply o_move); rfl; rfl; (with_reducible apply Tri.op); rfl; (with_reducible apply o_move); rfl; rfl)
      ((with_reducible apply Tri.casesB 27); (case h => rfl); (all_goals intro hb))
      · subst hb
        ((with_reducible apply Tri.opYes); rfl; rfl; rfl; (with_reducible apply o_fieldAddr); rfl; rfl; (with_reducible apply Tri.opYes); rfl; rfl; rfl; (with_reducible apply o_load); rfl; (focus (first | ((repeat (first | with_reducible exact Pull.head | with_reducible apply Pull.tail)); done) | (repeat (first | exact Pull.head | apply Pull.tail)))); rfl; rfl; (with_reducible apply Tri.opYes); rfl; rfl; rfl; (with_reducible apply o_fieldAddr); rfl; rfl; (with_reducible apply Tri.opYes); rfl; rfl; rfl; (with_reducible apply o_load); rfl; (focus (first | ((repeat (first | with_reducible exact Pull.head | with_reducible apply Pull.tail)); done) | (repeat (first | exact Pull.head | apply Pull.tail)))); rfl; rfl; (with_reducible apply Tri.opYes); rfl; rfl; rfl; (with_reducible apply o_gtr); rfl; rfl; rfl; (with_reducible apply Tri.op); rfl; (with_reducible apply o_pickT); (iterate 4 rfl); (with_reducible refine Tri.nil (Tri.thenN ?_)))
        ((first | with_reducible apply Tri.condD | with_reducible apply TriR.condD); (case hc => rfl); (all_goals intro h2))
        · have h2' : (nwTo S k).1.gen < s.gen := by omega
          rw [if_pos ⟨rfl, h2'⟩] at hn
          ((with_reducible refine Tri.region ?_); (with_reducible apply Tri.op); rfl)
          ((with_reducible apply o_loadAll (cs := spL s)); (case hx => rfl); (case p => exact (by (first | ((repeat (first | with_reducible exact Pull.head | with_reducible apply Pull.tail)); done) | (repeat (first | exact Pull.head | apply Pull.tail))))); (case hl => rfl); (case hn => rfl))
          ((with_reducible apply Tri.op); rfl)
          ((with_reducible apply o_storeAll (ys := spL s)); (case hx => rfl); (case hy => rfl); (case p => (first | ((repeat (first | with_reducible exact Pull.head | with_reducible apply Pull.tail)); done) | (repeat (first | exact Pull.head | apply Pull.tail)))); (case hl => rfl); (case hc => rfl); (case h1 => exact spL_one s))
          ((with_reducible refine Tri.nil (Tri.blockN (Tri.thenN (Tri.region ?_)))); (with_reducible apply Tri.op); rfl; (with_reducible apply o_add64); rfl; rfl; rfl; (omega); (with_reducible apply Tri.op); rfl; (with_reducible apply o_move); rfl; rfl; (with_reducible refine Tri.nil (Tri.thenN ?_)))
          ((with_reducible apply Tri.eqA (A := blk b6 _ _) (B := blk b6 50 (spL (nwTo S (k + 1)).1))); (case p => (first | ((repeat (first | with_reducible exact Pull.head | with_reducible apply Pull.tail)); done) | (repeat (first | exact Pull.head | apply Pull.tail)))); (case e => (rw [hn])))
          ((with_reducible apply Tri.again (y := ⟨k + 1, by omega, by rw [hn]⟩)); (case p => ((try dsimp only); (repeat (first | exact Pulls.nil | (apply Pulls.cons; (case a => (first | ((repeat (first | with_reducible exact Gv.Pull.head | with_reducible apply Gv.Pull.tail)); done) | (repeat (first | exact Gv.Pull.head | apply Gv.Pull.tail))))))))); (case hm => ((try dsimp only); omega)); (try dsimp only))
          (repeat (first | exact trivial | refine And.intro (by rfl) ?_))
        · rw [if_neg (fun q => h2 (by omega))] at hn
          ((with_reducible refine Tri.skip (Tri.blockN (Tri.thenN (Tri.region ?_)))); (with_reducible apply Tri.op); rfl; (with_reducible apply o_add64); rfl; rfl; rfl; (omega); (with_reducible apply Tri.op); rfl; (with_reducible apply o_move); rfl; rfl; (with_reducible refine Tri.nil (Tri.thenN ?_)))
          ((with_reducible apply Tri.eqA (A := blk b6 _ _) (B := blk b6 50 (spL (nwTo S (k + 1)).1))); (case p => (first | ((repeat (first | with_reducible exact Pull.head | with_reducible apply Pull.tail)); done) | (repeat (first | exact Pull.head | apply Pull.tail)))); (case e => (rw [hn])))
          ((with_reducible apply Tri.again (y := ⟨k + 1, by omega, by rw [hn]; exact hz⟩)); (case p => ((try dsimp only); (repeat (first | exact Pulls.nil | (apply Pulls.cons; (case a => (first | ((repeat (first | with_reducible exact Gv.Pull.head | with_reducible apply Gv.Pull.tail)); done) | (repeat (first | exact Gv.Pull.head | apply Gv.Pull.tail))))))))); (case hm => ((try dsimp only); omega)); (try dsimp only))
          (repeat (first | exact trivial | refine And.intro (by rfl) ?_))
      · subst hb
        rw [if_neg (fun q => by cases q.1)] at hn
        ((iterate 5 (with_reducible apply Tri.opNo (c := false)); (iterate 6 rfl)); (with_reducible apply Tri.op); rfl; (with_reducible apply o_pickF); (iterate 4 rfl); (with_reducible refine Tri.nil (Tri.thenN ?_)); (with_reducible apply Tri.condF); rfl; rfl; (with_reducible refine Tri.skip (Tri.blockN (Tri.thenN (Tri.region ?_)))); (with_reducible apply Tri.op); rfl; (with_reducible apply o_add64); rfl; rfl; rfl; (omega); (with_reducible apply Tri.op); rfl; (with_reducible apply o_move); rfl; rfl; (with_reducible refine Tri.nil (Tri.thenN ?_)))
        ((with_reducible apply Tri.eqA (A := blk b6 _ _) (B := blk b6 50 (spL (nwTo S (k + 1)).1))); (case p => (first | ((repeat (first | with_reducible exact Pull.head | with_reducible apply Pull.tail)); done) | (repeat (first | exact Pull.head | apply Pull.tail)))); (case e => (rw [hn])))
        ((with_reducible apply Tri.again (y := ⟨k + 1, by omega, by rw [hn]; exact hz⟩)); (case p => ((try dsimp only); (repeat (first | exact Pulls.nil | (apply Pulls.cons; (case a => (first | ((repeat (first | with_reducible exact Gv.Pull.head | with_reducible apply Gv.Pull.tail)); done) | (repeat (first | exact Gv.Pull.head | apply Gv.Pull.tail))))))))); (case hm => ((try dsimp only); omega)); (try dsimp only))
        (repeat (first | exact trivial | refine And.intro (by rfl) ?_))
    · rw [if_pos he] at hn
      have hnn : nwS S = (zeroS, e) := by
        have h3 : (nwTo S (k + 1)).2 ≠ 0 := by rw [hn]; exact he
        have h4 := nwTo_err (j := k + 1) (by omega) h3
        rw [nwS, h4, if_pos h3, hn]
      ((with_reducible apply Tri.setb 23 (true)); (case h => rfl); (case hi => (rw [decide_eq_true]; omega)))
      ((with_reducible apply Tri.condT); rfl; rfl; (with_reducible refine Tri.seq (Tri.region ?_)); (with_reducible apply Tri.op); rfl; (with_reducible apply o_build0); rfl; (with_reducible apply Tri.op); rfl; (with_reducible apply o_move); rfl; rfl; (with_reducible apply Tri.op); rfl)
      ((with_reducible apply o_storeAll (ys := spL zeroS)); (case hx => rfl); (case hy => rfl); (case p => (first | ((repeat (first | with_reducible exact Pull.head | with_reducible apply Pull.tail)); done) | (repeat (first | exact Pull.head | apply Pull.tail)))); (case hl => rfl); (case hc => rfl); (case h1 => exact spL_one zeroS))
      ((with_reducible apply Tri.op); rfl; (with_reducible apply o_assign); rfl; rfl; (with_reducible refine Tri.nil (Tri.thenN (Tri.ret (Tri.thenR (Tri.blockR (Tri.thenR (Tri.thenR (Tri.blockR (Tri.thenR ?_))))))))))
      ((first | with_reducible apply Tri.fin | with_reducible apply Tri.finN); (case hr => rfl); (case h => exact ResL.cons ((Res1.agg rfl (by (first | ((repeat (first | with_reducible exact Pull.head | with_reducible apply Pull.tail)); done) | (repeat (first | exact Pull.head | apply Pull.tail)))) (by rw [List.drop_zero]; exact List.take_of_length_le (Nat.le_of_eq (spL_len zeroS))) (spL_len zeroS))) (ResL.cons (Res1.tmp rfl) (ResL.nil))); (apply fin_R (Hn := [DSK p S])); (case p => exact (by (repeat (first | exact Pulls.nil | (apply Pulls.cons; (case a => (first | ((repeat (first | with_reducible exact Gv.Pull.head | with_reducible apply Gv.Pull.tail)); done) | (repeat (first | exact Gv.Pull.head | apply Gv.Pull.tail))))))))); (rw [hnn]; exact ⟨rfl, rfl⟩))
  · obtain rfl : k = 2 := by omega
    ((with_reducible refine Tri.exit (Tri.thenE (Tri.thenE (Tri.blockE (Tri.thenN (Tri.seq (Tri.seq (Tri.region ?_)))))))); (with_reducible apply Tri.op); rfl; (with_reducible apply o_fieldAddr); rfl; rfl; (with_reducible apply Tri.op); rfl; (with_reducible apply o_load); rfl; (focus (first | ((repeat (first | with_reducible exact Pull.head | with_reducible apply Pull.tail)); done) | (repeat (first | exact Pull.head | apply Pull.tail)))); rfl; rfl; (with_reducible apply Tri.op); rfl; (with_reducible apply o_eql); rfl; rfl; rfl; (with_reducible refine Tri.nil (Tri.thenN ?_)))
    ((first | with_reducible apply Tri.condD | with_reducible apply TriR.condD); (case hc => rfl); (all_goals intro h2))
    · have hnn : nwS S = (zeroS, 3) := by rw [nwS, if_neg (by rw [hz]; simp), if_pos (by omega)]
      ((with_reducible refine Tri.seq (Tri.region ?_)); (with_reducible apply Tri.op); rfl; (with_reducible apply o_build0); rfl; (with_reducible apply Tri.op); rfl)
      ((with_reducible apply o_storeAll (ys := spL zeroS)); (case hx => rfl); (case hy => rfl); (case p => (first | ((repeat (first | with_reducible exact Pull.head | with_reducible apply Pull.tail)); done) | (repeat (first | exact Pull.head | apply Pull.tail)))); (case hl => rfl); (case hc => rfl); (case h1 => exact spL_one zeroS))
      ((with_reducible apply Tri.op); rfl; (with_reducible apply o_assign); rfl; rfl; (with_reducible refine Tri.nil (Tri.thenN (Tri.ret (Tri.thenR ?_)))))
      ((first | with_reducible apply Tri.fin | with_reducible apply Tri.finN); (case hr => rfl); (case h => exact ResL.cons ((Res1.agg rfl (by (first | ((repeat (first | with_reducible exact Pull.head | with_reducible apply Pull.tail)); done) | (repeat (first | exact Pull.head | apply Pull.tail)))) (by rw [List.drop_zero]; exact List.take_of_length_le (Nat.le_of_eq (spL_len zeroS))) (spL_len zeroS))) (ResL.cons (Res1.tmp rfl) (ResL.nil))); (apply fin_R (Hn := [DSK p S])); (case p => exact (by (repeat (first | exact Pulls.nil | (apply Pulls.cons; (case a => (first | ((repeat (first | with_reducible exact Gv.Pull.head | with_reducible apply Gv.Pull.tail)); done) | (repeat (first | exact Gv.Pull.head | apply Gv.Pull.tail))))))))); (rw [hnn]; exact ⟨rfl, rfl⟩))
    · have hnn : nwS S = nwTo S 2 := by rw [nwS, if_neg (by rw [hz]; simp), if_neg (by omega)]
      ((with_reducible refine Tri.skip (Tri.thenN (Tri.seq (Tri.region ?_)))); (with_reducible apply Tri.op); rfl)
      ((with_reducible apply o_loadAll (cs := spL (nwTo S 2).1)); (case hx => rfl); (case p => exact (by (first | ((repeat (first | with_reducible exact Pull.head | with_reducible apply Pull.tail)); done) | (repeat (first | exact Pull.head | apply Pull.tail))))); (case hl => rfl); (case hn => rfl))
      ((with_reducible apply Tri.op); rfl)
      ((with_reducible apply o_storeAll (ys := spL (nwTo S 2).1)); (case hx => rfl); (case hy => rfl); (case p => (first | ((repeat (first | with_reducible exact Pull.head | with_reducible apply Pull.tail)); done) | (repeat (first | exact Pull.head | apply Pull.tail)))); (case hl => rfl); (case hc => rfl); (case h1 => exact spL_one (nwTo S 2).1))
      ((with_reducible apply Tri.op); rfl; (with_reducible apply o_assign); rfl; rfl; (with_reducible refine Tri.nil (Tri.thenN (Tri.ret ?_))))
      ((first | with_reducible apply Tri.fin | with_reducible apply Tri.finN); (case hr => rfl); (case h => exact ResL.cons ((Res1.agg rfl (by (first | ((repeat (first | with_reducible exact Pull.head | with_reducible apply Pull.tail)); done) | (repeat (first | exact Pull.head | apply Pull.tail)))) (by rw [List.drop_zero]; exact List.take_of_length_le (Nat.le_of_eq (spL_len (nwTo S 2).1))) (spL_len (nwTo S 2).1))) (ResL.cons (Res1.tmp rfl) (ResL.nil))); (apply fin_R (Hn := [DSK p S])); (case p => exact (by (repeat (first | exact Pulls.nil | (apply Pulls.cons; (case a => (first | ((repeat (first | with_reducible exact Gv.Pull.head | with_reducible apply Gv.Pull.tail)); done) | (repeat (first | exact Gv.Pull.head | apply Gv.Pull.tail))))))))); (rw [hnn, hz]; exact ⟨rfl, rfl⟩))
end Go.Proofs.Ytckdlfbbkemklaa
