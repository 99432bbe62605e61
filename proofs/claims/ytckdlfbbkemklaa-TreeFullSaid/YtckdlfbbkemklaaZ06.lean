/- Texts of this claim, put together: NdWalk7, BmPlain, BmWalk, BmPlain2, BmWalk2, BmWalk3, NjPlain, NdWalk9, SlWalk, GvCut, SlWalk3, NjWalk, NjPlain2, GvMany, NjWalk3, NjPlain3. -/
import Derived.Test.YtckdlfbbkemklaaZ05
import Derived.Test.YtckdlfbbkemklaaZ02
import Derived.Test.YtckdlfbbkemklaaZ00
import Derived.Test.YtckdlfbbkemklaaZ01
import Derived.Test.YtckdlfbbkemklaaZ03
section
/- node: Get of any node. -/
namespace Go.Proofs.Ytckdlfbbkemklaa
open Go Go.RowKit Go.Gv
set_option linter.unusedVariables false
set_option linter.unusedSimpArgs false

theorem ndLL_one (lf : Bool) (A B C : Option Addr) (m c n d k e : Nat) : ∀ y ∈ ndLL lf (.slice A m c) (.slice B n d) (.slice C k e), y.oneCell' = true := by
  intro y hy; simp [ndLL] at hy; rcases hy with rfl | rfl | rfl | rfl <;> rfl
theorem ndLL_nil (lf : Bool) (A : Option Addr) (m c : Nat) : ∀ y ∈ ndLL lf (.slice A m c) (.slice none 0 0) (.slice none 0 0), y.oneCell' = true := ndLL_one lf A none none m c 0 0 0 0
theorem rd_nil0 (h : PH) : Rd h (.slice none 0 0) 0 [] := ⟨none, 0, rfl, ⟨Nat.le_refl _, Nat.zero_le _⟩, fun j u hu => by simp at hu⟩
set_option maxHeartbeats 8000000 in
theorem node_Get_leaf (v : Value) (l : List UInt8) : SpecR Try.prog 54 #[.bool true, v] (fun w => RdW w v l.length (B8 l)) (fun r H' => ∃ A c, r = .tuple #[ndW (decide ((getL l).2 = 0)) (.slice A (getL l).1.length c) (.slice none 0 0) (.slice none 0 0), .int .i64 ((getL l).2 : Int)] ∧ H' = [own 100 8 (.slice A (getL l).1.length c) (getL l).1.length (EL (getL l).1)]) := by
  refine SpecR.of (fun w hr => ?_)
  have hlen := hr.le
  obtain ⟨A0, c0, rfl, _⟩ := id hr
  refine Calls.enter Try.func54 rfl rfl rfl (St.rebase w) ?_
  simp only [argSlots]
  (refine Tri.seq (Tri.region ?_); apply Tri.op; rfl)
  (apply o_alloc; (case hn => rfl); intro b4)
  (apply Tri.op; rfl; apply o_assign; rfl; rfl; refine Tri.nil (Tri.thenN (Tri.seq (Tri.region ?_))); apply Tri.op; rfl; apply o_assign; rfl; rfl; refine Tri.nil (Tri.thenN (Tri.seq (Tri.seq (Tri.region ?_)))); apply Tri.op; rfl; apply o_move; rfl; rfl; refine Tri.nil (Tri.thenN ?_); apply Tri.condT; rfl; rfl; refine Tri.region ?_; apply Tri.op; rfl; apply o_assign; rfl; rfl; refine Tri.nil (Tri.thenN (Tri.seq (Tri.seq (Tri.region ?_)))); apply Tri.op; rfl; apply o_move; rfl; rfl; apply Tri.op; rfl; apply o_len; rfl; rfl; apply Tri.op; rfl; apply o_eql; rfl; rfl; rfl; apply Tri.op; rfl; apply o_move; rfl; rfl)
  ((with_reducible apply Tri.casesB 15); (case h => rfl); (all_goals intro h1))
  · have g1 := of_decide_eq_true h1
    have hg : getL l = ([], 3) := by rw [getL, if_pos (.inl (by omega))]
    ((iterate 10 apply Tri.opNo (c := true); (iterate 6 rfl)); apply Tri.op; rfl; apply o_pickT; (iterate 4 rfl); refine Tri.nil (Tri.thenN ?_); apply Tri.condT; rfl; rfl; refine Tri.seq (Tri.region ?_); apply Tri.op; rfl; apply o_build0; rfl; apply Tri.op; rfl)
    (apply o_storeAll (ys := ndLL false (.slice none 0 0) (.slice none 0 0) (.slice none 0 0)); (case hx => rfl); (case hy => rfl); (case p => (with_reducible repeat constructor)); (case hl => rfl); (case hc => rfl); (case h1 => exact ndLL_nil false none 0 0))
    (apply Tri.op; rfl; apply o_assign; rfl; rfl; refine Tri.nil (Tri.thenN (Tri.ret (Tri.thenR ?_))))
    (with_reducible apply Tri.ownNil 100 8)
    rw [hg]
    (apply Tri.fin; (case hr => rfl); (case h => exact ResL.cons ((Res1.agg rfl (by (with_reducible repeat constructor)) (by rw [List.drop_zero]; exact List.take_of_length_le (Nat.le_of_eq (ndLL_len false (.slice none 0 0) (.slice none 0 0) (.slice none 0 0)))) (ndLL_len false (.slice none 0 0) (.slice none 0 0) (.slice none 0 0)))) (ResL.cons (Res1.tmp rfl) (ResL.nil))); (apply fin_R (Hn := [own 100 8 (.slice none 0 0) 0 []])); (case p => exact (by (repeat first | with_reducible constructor | constructor))); exact ⟨none, 0, rfl, rfl⟩)
  · have g1 := of_decide_eq_false h1
    have x0 := (l.getD 0 0).toNat_lt
    (apply Tri.opYes; rfl; rfl; rfl; apply o_move; rfl; rfl; apply Tri.opYes; rfl; rfl; rfl; apply o_len; rfl; rfl; apply Tri.opYes; rfl; rfl; rfl; apply o_move; rfl; rfl; apply Tri.opYes; rfl; rfl; rfl)
    (apply o_ixRd (hr := hr) (j := 0); (case hx => rfl); (case hy => rfl); (case hj => rfl); (case hlt => omega); (case hl => (rw [B8_length]; omega)); (case hn => rfl))
    (apply Tri.opYes; rfl; rfl; rfl)
    (apply o_loadRd (v := .int .u8 ((l.getD 0 0).toNat : Int)) (hr := hr); (case hx => rfl); (case p => (with_reducible repeat constructor)); (case hv => exact get_or' l 0 (by omega)); (case hn => rfl))
    (apply Tri.opYes; rfl; rfl; rfl; apply o_convI; rfl; rfl; (first | decide | (exact wrap_i64 (by omega)) | (exact wrap_u8 (by omega)) | (exact wrap_u16 (by omega)) | (exact wrap_u32 (by omega)) | (exact wrap_u64 (by omega))); apply Tri.opYes; rfl; rfl; rfl; apply o_move; rfl; rfl; apply Tri.opYes; rfl; rfl; rfl; apply o_mul64; rfl; rfl; rfl; (omega); apply Tri.opYes; rfl; rfl; rfl; apply o_add64; rfl; rfl; rfl; (omega); apply Tri.opYes; rfl; rfl; rfl; apply o_neq; rfl; rfl; rfl; apply Tri.op; rfl; apply o_pickF; (iterate 4 rfl); refine Tri.nil (Tri.thenN ?_))
    (apply Tri.condD; (case hc => rfl); (all_goals intro h2))
    · have hg : getL l = ([], 3) := by rw [getL, if_pos (.inr (by unfold cntG; omega))]
      (refine Tri.seq (Tri.region ?_); apply Tri.op; rfl; apply o_build0; rfl; apply Tri.op; rfl)
      (apply o_storeAll (ys := ndLL false (.slice none 0 0) (.slice none 0 0) (.slice none 0 0)); (case hx => rfl); (case hy => rfl); (case p => (with_reducible repeat constructor)); (case hl => rfl); (case hc => rfl); (case h1 => exact ndLL_nil false none 0 0))
      (apply Tri.op; rfl; apply o_assign; rfl; rfl; refine Tri.nil (Tri.thenN (Tri.ret (Tri.thenR ?_))))
      (with_reducible apply Tri.ownNil 100 8)
      rw [hg]
      (apply Tri.fin; (case hr => rfl); (case h => exact ResL.cons ((Res1.agg rfl (by (with_reducible repeat constructor)) (by rw [List.drop_zero]; exact List.take_of_length_le (Nat.le_of_eq (ndLL_len false (.slice none 0 0) (.slice none 0 0) (.slice none 0 0)))) (ndLL_len false (.slice none 0 0) (.slice none 0 0) (.slice none 0 0)))) (ResL.cons (Res1.tmp rfl) (ResL.nil))); (apply fin_R (Hn := [own 100 8 (.slice none 0 0) 0 []])); (case p => exact (by (repeat first | with_reducible constructor | constructor))); exact ⟨none, 0, rfl, rfl⟩)
    · obtain ⟨n, hn⟩ : ∃ n, n = cntG l := ⟨_, rfl⟩
      have hn' : n = (l.getD 0 0).toNat := hn
      have hll : l.length = 1 + n * 30 := by omega
      (refine Tri.skip (Tri.thenN (Tri.seq (Tri.region ?_))); apply Tri.op; rfl; apply o_move; rfl; rfl; apply Tri.op; rfl)
      (apply o_build (ys := ndLL true (.slice none 0 0) (.slice none 0 0) (.slice none 0 0)); (case hp => (repeat first | exact pev.nil | (apply pev.cons; case a => rfl))); (case hf => rfl); (case hn => rfl))
      (apply Tri.op; rfl)
      (apply o_alloc; (case hn => rfl); intro b7)
      (apply Tri.op; rfl)
      (apply o_storeAll (ys := ndLL true (.slice none 0 0) (.slice none 0 0) (.slice none 0 0)); (case hx => rfl); (case hy => rfl); (case p => (with_reducible repeat constructor)); (case hl => rfl); (case hc => rfl); (case h1 => exact ndLL_nil true none 0 0))
      (refine Tri.nil (Tri.thenN (Tri.seq (Tri.region ?_))); apply Tri.op; rfl; apply o_move; rfl; rfl; apply Tri.op; rfl)
      (apply o_slice (lo := 1) (hi := l.length); (case hx => rfl); (case hr => exact rdw_ex (by (with_reducible repeat constructor)) hr); (case hol => first | exact fun _ _ => rfl | exact fun a ha => congrArg some (ha.eval rfl)); (case hoh => first | exact fun _ _ => rfl | exact fun a ha => congrArg some (ha.eval rfl)); (case hlo => first | exact .inr ⟨rfl, rfl⟩ | exact .inl ⟨_, rfl⟩ | exact .inl ⟨_, (by congr 2; omega)⟩); (case hhi => first | exact .inr ⟨rfl, rfl⟩ | exact .inl ⟨_, rfl⟩ | exact .inl ⟨_, (by congr 2; omega)⟩); (case hlh => omega); (case hhm => omega); (case hn => rfl))
      have hd1 := drop_rd hr 1 (by omega)
      obtain ⟨A1, c1, he, _⟩ := id hd1
      rw [he] at hd1
      ((with_reducible apply Tri.setv 31 ((.slice A1 (l.drop 1).length c1))); (case h => rfl); (case hv => exact he))
      (apply Tri.op; rfl)
      (apply o_build (ys := [.slice A1 (l.drop 1).length c1]); (case hp => (repeat first | exact pev.nil | (apply pev.cons; case a => rfl))); (case hf => rfl); (case hn => rfl))
      (apply Tri.op; rfl)
      (first | (apply o_boxA; (case hx => rfl); (case hn => rfl); intro b8) | (apply o_box1; (case hx => rfl); (case h1 => rfl); (case hn => rfl); intro b8))
      (apply Tri.op; rfl; apply o_assign; rfl; rfl; refine Tri.nil (Tri.thenN (Tri.seq (Tri.seq (Tri.region ?_)))); apply Tri.op; rfl; apply o_move; rfl; rfl; apply Tri.op; rfl)
      (apply o_ixRd (hr := hr) (j := 0); (case hx => rfl); (case hy => rfl); (case hj => rfl); (case hlt => omega); (case hl => (rw [B8_length]; omega)); (case hn => rfl))
      (apply Tri.op; rfl)
      (apply o_loadRd (v := .int .u8 ((l.getD 0 0).toNat : Int)) (hr := hr); (case hx => rfl); (case p => (with_reducible repeat constructor)); (case hv => exact get_or' l 0 (by omega)); (case hn => rfl))
      (apply Tri.op; rfl; apply o_convI; rfl; rfl; (first | decide | (exact wrap_i64 (by omega)) | (exact wrap_u8 (by omega)) | (exact wrap_u16 (by omega)) | (exact wrap_u32 (by omega)) | (exact wrap_u64 (by omega))); apply Tri.op; rfl; apply o_move; rfl; rfl; refine Tri.nil (Tri.thenN (Tri.block ?_)))
      (with_reducible apply Tri.ownNil 100 8)
      ((with_reducible apply Tri.eqA (A := own 100 8 _ 0 []) (B := own 100 8 (.slice none 0 0) 0 (EL (entsG l 0)))); (case p => (with_reducible repeat constructor)); (case e => rfl))
      ((with_reducible apply Tri.seti 37 ((n : Int))); (case h => rfl); (case hi => (rw [hn'])))
      (apply Tri.loop (α := Σ' (i : Nat) (Ak : Option Addr) (ck : Nat) (A1 : Option Addr) (c1 : Nat), i ≤ n ∧ Rd (hp w) (.slice A1 (l.drop (1 + i * 30)).length c1) (l.drop (1 + i * 30)).length (B8 (l.drop (1 + i * 30)))) (m := fun x => n - x.1) (Lx := fun x => [(0, .bool true), (1, .slice A0 l.length c0), (4, .pointer (some ⟨b4, 0, none⟩)), (7, .pointer (some ⟨b7, 0, none⟩)), (8, .pointer (some ⟨b8, 0, none⟩)), (37, .int .i64 (n : Int)), (38, .int .i64 (x.1 : Int))]) (Hx := fun x => [blk b4 33 [.bool false, .slice none 0 0, .slice none 0 0, .slice none 0 0], blk b7 33 (ndLL true (.slice x.2.1 x.1 x.2.2.1) (.slice none 0 0) (.slice none 0 0)), blk b8 179 [.slice x.2.2.2.1 (l.drop (1 + x.1 * 30)).length x.2.2.2.2.1], own 100 8 (.slice x.2.1 x.1 x.2.2.1) x.1 (EL (entsG l x.1)), Ex (hp w)]) (x0 := ⟨0, none, 0, A1, c1, Nat.zero_le _, hd1⟩); (case hL => ((try dsimp only); (repeat (first | exact trivial | refine And.intro (by rfl) ?_)))); (case hH => ((try dsimp only); apply St.all; (repeat first | with_reducible constructor | constructor)))); (rintro ⟨i, Ak, ck, A1, c1, hi, hu⟩ mx hmx; (try dsimp only at hmx ⊢))
      (refine Tri.seq (Tri.region ?_); apply Tri.op; rfl; apply o_lss; rfl; rfl; rfl; refine Tri.nil (Tri.thenN (Tri.seq ?_)))
      (apply Tri.condD; (case hc => rfl); (all_goals intro hc))
      · have hin : i < n := by omega
        (refine Tri.skip (Tri.thenN (Tri.seq (Tri.block (Tri.seq (Tri.seq (Tri.region ?_)))))); apply Tri.op; rfl; apply o_move; rfl; rfl; refine Tri.nil (Tri.thenN ?_); apply Tri.condT; rfl; rfl; refine Tri.seq ?_)
        ((first | with_reducible apply Tri.mix [Ex (hp w)] | (apply TriR.mix [Ex (hp w)]; (case hnd => rfl))); (case p => (repeat first | with_reducible constructor | constructor)); (dsimp only [List.length]))
        ((first | (apply TriM.q 0; rfl; rfl) | (apply TriM.qYes 0; rfl; rfl; rfl; with_reducible rfl)); kernel_rfl; rfl; rfl; (intro F K hK; apply o_fieldAddr; rfl; rfl; exact hK); (first | (apply TriM.q 2; rfl; rfl) | (apply TriM.qYes 2; rfl; rfl; rfl; with_reducible rfl)); kernel_rfl; rfl; rfl; (intro F K hK; apply o_move; rfl; rfl; exact hK))
        (apply TriM.a2 1 3; (case hoi => rfl); (case hoj => rfl); (case hgi => rfl); (case hgj => rfl); (case hr => kernel_rfl); (all_goals (try dsimp only [List.cons_append, List.nil_append])))
        · (apply o_load; (case hx => rfl); (case p => (with_reducible repeat constructor)); (case hv => rfl); (case hn => rfl))
          (apply TriM.back; (case p => (repeat first | with_reducible constructor | constructor)))
          (apply TriM.a 3; (case ho => rfl); (case hg => rfl); (case hr => kernel_rfl); (try dsimp only [List.cons_append, List.nil_append]))
          ((with_reducible apply o_callS (hs := node_entry b8 (.slice A1 (l.drop (1 + i * 30)).length c1) (l.drop (1 + i * 30)) (hp w) hu (by rw [List.length_drop]; omega))); (case hargs => (repeat first | exact evs.nil | (apply evs.cons; case a => rfl))); (case p => (repeat first | with_reducible constructor | constructor)); (case hn => rfl))
          rintro x1 H1 ⟨rfl, A2, c2, hr2, rfl⟩
          simp only [List.drop_drop] at hr2 ⊢
          rw [show 1 + i * 30 + 30 = 1 + (i + 1) * 30 by omega] at hr2 ⊢
          (try dsimp only [List.cons_append, List.nil_append])
          (apply TriM.back; (case p => (repeat first | with_reducible constructor | constructor)))
          (apply TriM.a 4; (case ho => rfl); (case hg => rfl); (case hr => kernel_rfl); (try dsimp only [List.cons_append, List.nil_append]))
          (apply o_litSl (ys := entL (entP (l.drop (1 + i * 30)))); (case hp => (repeat first | exact pev.nil | (apply pev.cons; case a => rfl))); (case hm => rfl); (case hf => rfl); (case hn => rfl); intro vl)
          (apply TriM.back; (case p => (repeat first | with_reducible constructor | constructor)))
          (apply TriM.a 5; (case ho => rfl); (case hg => rfl); (case hr => kernel_rfl); (try dsimp only [List.cons_append, List.nil_append]))
          (apply o_append; (case hx => rfl); (case hy => rfl); (case p => (with_reducible repeat constructor)); (case hr => exact rdw_own (by (with_reducible repeat constructor))); (case hl => rfl); (case h1 => exact entL_one _); (case hb => omega); (case hn => rfl))
          intro kv2
          (refine Tri.shape (e := 100) (size := 8) (v := kv2) (by (with_reducible repeat constructor)) ?_; rintro ⟨A3, c3, rfl⟩)
          (apply TriM.back; (case p => (repeat first | with_reducible constructor | constructor)))
          ((first | (apply TriM.q 6; rfl; rfl) | (apply TriM.qYes 6; rfl; rfl; rfl; with_reducible rfl)); kernel_rfl; rfl; rfl; (intro F K hK; apply o_fieldAddr; rfl; rfl; exact hK))
          (apply TriM.a 7; (case ho => rfl); (case hg => rfl); (case hr => kernel_rfl); (try dsimp only [List.cons_append, List.nil_append]))
          (apply o_store; (case hx => rfl); (case hy => rfl); (case h1 => rfl); (case p => (with_reducible repeat constructor)); (case hi => (show 1 < 4; omega)))
          (apply TriM.back; (case p => (repeat first | with_reducible constructor | constructor)))
          (apply TriM.nil; (case hr => kernel_rfl); (try dsimp only [List.cons_append, List.nil_append]))
          (refine Tri.thenN (Tri.exit (Tri.thenE (Tri.blockE (Tri.thenN (Tri.region ?_))))); apply Tri.op; rfl; apply o_add64; rfl; rfl; rfl; (omega); apply Tri.op; rfl; apply o_move; rfl; rfl; refine Tri.nil (Tri.thenN ?_))
          ((with_reducible apply Tri.eqA (A := own 100 8 (.slice A3 _ c3) _ _) (B := own 100 8 (.slice A3 (i + 1) c3) (i + 1) (EL (entsG l (i + 1))))); (case p => (with_reducible repeat constructor)); (case e => (rw [entsG_succ, EL_snoc])))
          (apply Tri.again (y := ⟨i + 1, A3, c3, A2, c2, by omega, hr2⟩); (case p => ((try dsimp only); (repeat (first | exact Pulls.nil | (apply Pulls.cons; (case a => (first | ((repeat (first | with_reducible exact Gv.Pull.head | with_reducible apply Gv.Pull.tail)); done) | (repeat (first | exact Gv.Pull.head | apply Gv.Pull.tail))))))))); (case hm => ((try dsimp only); omega)); (try dsimp only))
          (repeat (first | exact trivial | refine And.intro (by rfl) ?_))
        · ((with_reducible apply o_callS (hs := node_entry b8 (.slice A1 (l.drop (1 + i * 30)).length c1) (l.drop (1 + i * 30)) (hp w) hu (by rw [List.length_drop]; omega))); (case hargs => (repeat first | exact evs.nil | (apply evs.cons; case a => rfl))); (case p => (repeat first | with_reducible constructor | constructor)); (case hn => rfl))
          rintro x1 H1 ⟨rfl, A2, c2, hr2, rfl⟩
          simp only [List.drop_drop] at hr2 ⊢
          rw [show 1 + i * 30 + 30 = 1 + (i + 1) * 30 by omega] at hr2 ⊢
          (try dsimp only [List.cons_append, List.nil_append])
          (apply TriM.back; (case p => (repeat first | with_reducible constructor | constructor)))
          (apply TriM.a2 1 4; (case hoi => rfl); (case hoj => rfl); (case hgi => rfl); (case hgj => rfl); (case hr => kernel_rfl); (all_goals (try dsimp only [List.cons_append, List.nil_append])))
          · (apply o_load; (case hx => rfl); (case p => (with_reducible repeat constructor)); (case hv => rfl); (case hn => rfl))
            (apply TriM.back; (case p => (repeat first | with_reducible constructor | constructor)))
            (apply TriM.a 4; (case ho => rfl); (case hg => rfl); (case hr => kernel_rfl); (try dsimp only [List.cons_append, List.nil_append]))
            (apply o_litSl (ys := entL (entP (l.drop (1 + i * 30)))); (case hp => (repeat first | exact pev.nil | (apply pev.cons; case a => rfl))); (case hm => rfl); (case hf => rfl); (case hn => rfl); intro vl)
            (apply TriM.back; (case p => (repeat first | with_reducible constructor | constructor)))
            (apply TriM.a 5; (case ho => rfl); (case hg => rfl); (case hr => kernel_rfl); (try dsimp only [List.cons_append, List.nil_append]))
            (apply o_append; (case hx => rfl); (case hy => rfl); (case p => (with_reducible repeat constructor)); (case hr => exact rdw_own (by (with_reducible repeat constructor))); (case hl => rfl); (case h1 => exact entL_one _); (case hb => omega); (case hn => rfl))
            intro kv2
            (refine Tri.shape (e := 100) (size := 8) (v := kv2) (by (with_reducible repeat constructor)) ?_; rintro ⟨A3, c3, rfl⟩)
            (apply TriM.back; (case p => (repeat first | with_reducible constructor | constructor)))
            ((first | (apply TriM.q 6; rfl; rfl) | (apply TriM.qYes 6; rfl; rfl; rfl; with_reducible rfl)); kernel_rfl; rfl; rfl; (intro F K hK; apply o_fieldAddr; rfl; rfl; exact hK))
            (apply TriM.a 7; (case ho => rfl); (case hg => rfl); (case hr => kernel_rfl); (try dsimp only [List.cons_append, List.nil_append]))
            (apply o_store; (case hx => rfl); (case hy => rfl); (case h1 => rfl); (case p => (with_reducible repeat constructor)); (case hi => (show 1 < 4; omega)))
            (apply TriM.back; (case p => (repeat first | with_reducible constructor | constructor)))
            (apply TriM.nil; (case hr => kernel_rfl); (try dsimp only [List.cons_append, List.nil_append]))
            (refine Tri.thenN (Tri.exit (Tri.thenE (Tri.blockE (Tri.thenN (Tri.region ?_))))); apply Tri.op; rfl; apply o_add64; rfl; rfl; rfl; (omega); apply Tri.op; rfl; apply o_move; rfl; rfl; refine Tri.nil (Tri.thenN ?_))
            ((with_reducible apply Tri.eqA (A := own 100 8 (.slice A3 _ c3) _ _) (B := own 100 8 (.slice A3 (i + 1) c3) (i + 1) (EL (entsG l (i + 1))))); (case p => (with_reducible repeat constructor)); (case e => (rw [entsG_succ, EL_snoc])))
            (apply Tri.again (y := ⟨i + 1, A3, c3, A2, c2, by omega, hr2⟩); (case p => ((try dsimp only); (repeat (first | exact Pulls.nil | (apply Pulls.cons; (case a => (first | ((repeat (first | with_reducible exact Gv.Pull.head | with_reducible apply Gv.Pull.tail)); done) | (repeat (first | exact Gv.Pull.head | apply Gv.Pull.tail))))))))); (case hm => ((try dsimp only); omega)); (try dsimp only))
            (repeat (first | exact trivial | refine And.intro (by rfl) ?_))
          · (apply o_litSl (ys := entL (entP (l.drop (1 + i * 30)))); (case hp => (repeat first | exact pev.nil | (apply pev.cons; case a => rfl))); (case hm => rfl); (case hf => rfl); (case hn => rfl); intro vl)
            (apply TriM.back; (case p => (repeat first | with_reducible constructor | constructor)))
            (apply TriM.a 1; (case ho => rfl); (case hg => rfl); (case hr => kernel_rfl); (try dsimp only [List.cons_append, List.nil_append]))
            (apply o_load; (case hx => rfl); (case p => (with_reducible repeat constructor)); (case hv => rfl); (case hn => rfl))
            (apply TriM.back; (case p => (repeat first | with_reducible constructor | constructor)))
            (apply TriM.a 5; (case ho => rfl); (case hg => rfl); (case hr => kernel_rfl); (try dsimp only [List.cons_append, List.nil_append]))
            (apply o_append; (case hx => rfl); (case hy => rfl); (case p => (with_reducible repeat constructor)); (case hr => exact rdw_own (by (with_reducible repeat constructor))); (case hl => rfl); (case h1 => exact entL_one _); (case hb => omega); (case hn => rfl))
            intro kv2
            (refine Tri.shape (e := 100) (size := 8) (v := kv2) (by (with_reducible repeat constructor)) ?_; rintro ⟨A3, c3, rfl⟩)
            (apply TriM.back; (case p => (repeat first | with_reducible constructor | constructor)))
            ((first | (apply TriM.q 6; rfl; rfl) | (apply TriM.qYes 6; rfl; rfl; rfl; with_reducible rfl)); kernel_rfl; rfl; rfl; (intro F K hK; apply o_fieldAddr; rfl; rfl; exact hK))
            (apply TriM.a 7; (case ho => rfl); (case hg => rfl); (case hr => kernel_rfl); (try dsimp only [List.cons_append, List.nil_append]))
            (apply o_store; (case hx => rfl); (case hy => rfl); (case h1 => rfl); (case p => (with_reducible repeat constructor)); (case hi => (show 1 < 4; omega)))
            (apply TriM.back; (case p => (repeat first | with_reducible constructor | constructor)))
            (apply TriM.nil; (case hr => kernel_rfl); (try dsimp only [List.cons_append, List.nil_append]))
            (refine Tri.thenN (Tri.exit (Tri.thenE (Tri.blockE (Tri.thenN (Tri.region ?_))))); apply Tri.op; rfl; apply o_add64; rfl; rfl; rfl; (omega); apply Tri.op; rfl; apply o_move; rfl; rfl; refine Tri.nil (Tri.thenN ?_))
            ((with_reducible apply Tri.eqA (A := own 100 8 (.slice A3 _ c3) _ _) (B := own 100 8 (.slice A3 (i + 1) c3) (i + 1) (EL (entsG l (i + 1))))); (case p => (with_reducible repeat constructor)); (case e => (rw [entsG_succ, EL_snoc])))
            (apply Tri.again (y := ⟨i + 1, A3, c3, A2, c2, by omega, hr2⟩); (case p => ((try dsimp only); (repeat (first | exact Pulls.nil | (apply Pulls.cons; (case a => (first | ((repeat (first | with_reducible exact Gv.Pull.head | with_reducible apply Gv.Pull.tail)); done) | (repeat (first | exact Gv.Pull.head | apply Gv.Pull.tail))))))))); (case hm => ((try dsimp only); omega)); (try dsimp only))
            (repeat (first | exact trivial | refine And.intro (by rfl) ?_))
      · obtain rfl : i = n := by omega
        have hnk : (entsG l i).length = i := entsG_length l i
        have hRe : ∀ e ∈ entsG l i, entR e := fun e he => by
          obtain ⟨k, hk, rfl⟩ := List.mem_map.1 he
          have hk' : k < i := List.mem_range.1 hk
          have hb : ∀ a m, a + m ≤ 30 → numB (((l.drop (1 + k * 30)).drop a).take m) < 256 ^ m := fun a m h => by
            have := numB_lt (((l.drop (1 + k * 30)).drop a).take m)
            rwa [show (((l.drop (1 + k * 30)).drop a).take m).length = m by rw [List.length_take, List.length_drop, List.length_drop]; omega] at this
          have q0 := hb 4 8 (by omega)
          have q1 := hb 12 8 (by omega)
          have q6 := hb 26 4 (by omega)
          refine ⟨?_, ?_, q6⟩
          · unfold i64R; simp only [entP]; unfold s64; split <;> omega
          · unfold i64R; simp only [entP]; unfold s64; split <;> omega
        ((with_reducible refine Tri.exit (Tri.thenE (Tri.thenE (Tri.blockE (Tri.thenN (Tri.seq (Tri.region ?_))))))); apply Tri.op; rfl)
        (apply o_loadAll (cs := ndLL true (.slice Ak i ck) (.slice none 0 0) (.slice none 0 0)); (case hx => rfl); (case p => (with_reducible repeat constructor)); (case hl => rfl); (case hn => rfl))
        (apply Tri.op; rfl)
        have hpre : ∀ {H H1 : List Atom} (p1 : Pull H (own 100 8 (.slice Ak i ck) i (EL (entsG l i))) H1) (w' : World), St w w' H → ndR w' (.slice Ak i ck) (.slice none 0 0) (.slice none 0 0) (entsG l i) [] [] := fun p1 w' hw' => ⟨by rw [hnk]; exact rdw_own p1 w' hw', rd_nil0 _, rd_nil0 _⟩
        by_cases hok : leafB (entsG l i) = true
        · have hrn : rightN true (entsG l i) [] [] = true := by rw [rightN, if_pos rfl, hok]; rfl
          (apply o_callR (hs := node_PutN true (.slice Ak i ck) (.slice none 0 0) (.slice none 0 0) (entsG l i) [] [] hrn hRe); (case hargs => (repeat first | exact evs.nil | (apply evs.cons; case a => rfl))); (case hpre => exact hpre (by (with_reducible repeat constructor))); (case hn => rfl))
          rintro r1 H1 ⟨u, rfl, rfl⟩
          rw [show putN true (entsG l i) [] [] = putL (entsG l i) from rfl]
          (try dsimp only [List.cons_append, List.nil_append])
          (apply Tri.op; rfl; apply o_move; rfl; rfl; apply Tri.op; rfl; apply o_extract; rfl; rfl; rfl; apply Tri.op; rfl; apply o_extract; rfl; rfl; rfl; apply Tri.op; rfl; apply o_assign; rfl; rfl; apply Tri.op; rfl; apply o_assign; rfl; rfl; refine Tri.nil (Tri.thenN (Tri.seq (Tri.seq (Tri.region ?_)))); apply Tri.op; rfl; apply o_move; rfl; rfl; apply Tri.op; rfl; apply o_neq; rfl; rfl; rfl; apply Tri.op; rfl; apply o_move; rfl; rfl)
          ((with_reducible apply Tri.setb 71 (false)); (case h => rfl); (case hi => rfl))
          (apply Tri.opYes; rfl; rfl; rfl; apply o_move; rfl; rfl; apply Tri.opYes; rfl; rfl; rfl; apply o_move; rfl; rfl; apply Tri.opYes; rfl; rfl; rfl)
          (apply o_callV (hs := bytes_Equal2 u (.slice A0 l.length c0) (putL (entsG l i)) l); (case hargs => (repeat first | exact evs.nil | (apply evs.cons; case a => rfl))); (case hpre => exact fun w' hw' => ⟨rdw_own (by (with_reducible repeat constructor)) w' hw', rdw_ex (by (with_reducible repeat constructor)) hr w' hw'⟩); (case hn => rfl))
          (apply Tri.opYes; rfl; rfl; rfl; apply o_notD; rfl; rfl; apply Tri.op; rfl; apply o_pickF; (iterate 4 rfl); refine Tri.nil (Tri.thenN ?_))
          by_cases hpe : putL (entsG l i) = l
          · have hg : getL l = (entsG l i, 0) := by rw [getL, if_neg (by rw [← hn]; omega), ← hn, if_pos ⟨hok, hpe⟩]
            ((with_reducible apply Tri.setb 76 (false)); (case h => rfl); (case hi => simp [hpe]))
            (apply Tri.condF; rfl; rfl; refine Tri.skip (Tri.thenN (Tri.seq (Tri.region ?_))); apply Tri.op; rfl)
            (apply o_loadAll (cs := ndLL true (.slice Ak i ck) (.slice none 0 0) (.slice none 0 0)); (case hx => rfl); (case p => (with_reducible repeat constructor)); (case hl => rfl); (case hn => rfl))
            (apply Tri.op; rfl)
            (apply o_storeAll (ys := ndLL true (.slice Ak i ck) (.slice none 0 0) (.slice none 0 0)); (case hx => rfl); (case hy => rfl); (case p => (with_reducible repeat constructor)); (case hl => rfl); (case hc => rfl); (case h1 => exact ndLL_nil true Ak i ck))
            (apply Tri.op; rfl; apply o_assign; rfl; rfl; refine Tri.nil (Tri.thenN (Tri.ret ?_)))
            rw [hg]
            simp only [hnk]
            (apply Tri.fin; (case hr => rfl); (case h => exact ResL.cons ((Res1.agg rfl (by (with_reducible repeat constructor)) (by rw [List.drop_zero]; exact List.take_of_length_le (Nat.le_of_eq (ndLL_len true (.slice Ak i ck) (.slice none 0 0) (.slice none 0 0)))) (ndLL_len true (.slice Ak i ck) (.slice none 0 0) (.slice none 0 0)))) (ResL.cons (Res1.tmp rfl) (ResL.nil))); (apply fin_R (Hn := [own 100 8 (.slice Ak i ck) i (EL (entsG l i))])); (case p => exact (by (repeat first | with_reducible constructor | constructor))); exact ⟨Ak, ck, rfl, rfl⟩)
          · have hg : getL l = ([], 3) := by rw [getL, if_neg (by rw [← hn]; omega), ← hn, if_neg (fun h => hpe h.2)]
            ((with_reducible apply Tri.setb 76 (true)); (case h => rfl); (case hi => simp [hpe]))
            (apply Tri.condT; rfl; rfl; refine Tri.seq (Tri.region ?_); apply Tri.op; rfl; apply o_build0; rfl; apply Tri.op; rfl)
            (apply o_storeAll (ys := ndLL false (.slice none 0 0) (.slice none 0 0) (.slice none 0 0)); (case hx => rfl); (case hy => rfl); (case p => (with_reducible repeat constructor)); (case hl => rfl); (case hc => rfl); (case h1 => exact ndLL_nil false none 0 0))
            (apply Tri.op; rfl; apply o_assign; rfl; rfl; refine Tri.nil (Tri.thenN (Tri.ret (Tri.thenR ?_))))
            (with_reducible apply Tri.ownNil 100 8)
            rw [hg]
            (apply Tri.fin; (case hr => rfl); (case h => exact ResL.cons ((Res1.agg rfl (by (with_reducible repeat constructor)) (by rw [List.drop_zero]; exact List.take_of_length_le (Nat.le_of_eq (ndLL_len false (.slice none 0 0) (.slice none 0 0) (.slice none 0 0)))) (ndLL_len false (.slice none 0 0) (.slice none 0 0) (.slice none 0 0)))) (ResL.cons (Res1.tmp rfl) (ResL.nil))); (apply fin_R (Hn := [own 100 8 (.slice none 0 0) 0 []])); (case p => exact (by (repeat first | with_reducible constructor | constructor))); exact ⟨none, 0, rfl, rfl⟩)
        · have hg : getL l = ([], 3) := by rw [getL, if_neg (by rw [← hn]; omega), ← hn, if_neg (fun h => hok h.1)]
          have hrn : rightN true (entsG l i) [] [] = false := by
            rw [Bool.eq_false_iff]; intro h; apply hok
            rw [rightN, if_pos rfl] at h; simpa using h
          (apply o_callV (hs := node_PutN_no true (.slice Ak i ck) (.slice none 0 0) (.slice none 0 0) (entsG l i) [] [] hrn); (case hargs => (repeat first | exact evs.nil | (apply evs.cons; case a => rfl))); (case hpre => exact hpre (by (with_reducible repeat constructor))); (case hn => rfl))
          (apply Tri.op; rfl; apply o_move; rfl; rfl; apply Tri.op; rfl; apply o_extract; rfl; rfl; rfl; apply Tri.op; rfl; apply o_extract; rfl; rfl; rfl; apply Tri.op; rfl; apply o_assign; rfl; rfl; apply Tri.op; rfl; apply o_assign; rfl; rfl; refine Tri.nil (Tri.thenN (Tri.seq (Tri.seq (Tri.region ?_)))); apply Tri.op; rfl; apply o_move; rfl; rfl; apply Tri.op; rfl; apply o_neq; rfl; rfl; rfl; apply Tri.op; rfl; apply o_move; rfl; rfl)
          ((with_reducible apply Tri.setb 71 (true)); (case h => rfl); (case hi => rfl))
          ((iterate 4 apply Tri.opNo (c := true); (iterate 6 rfl)); apply Tri.op; rfl; apply o_pickT; (iterate 4 rfl); refine Tri.nil (Tri.thenN ?_); apply Tri.condT; rfl; rfl; refine Tri.seq (Tri.region ?_); apply Tri.op; rfl; apply o_build0; rfl; apply Tri.op; rfl)
          (apply o_storeAll (ys := ndLL false (.slice none 0 0) (.slice none 0 0) (.slice none 0 0)); (case hx => rfl); (case hy => rfl); (case p => (with_reducible repeat constructor)); (case hl => rfl); (case hc => rfl); (case h1 => exact ndLL_nil false none 0 0))
          (apply Tri.op; rfl; apply o_assign; rfl; rfl; refine Tri.nil (Tri.thenN (Tri.ret (Tri.thenR ?_))))
          (with_reducible apply Tri.ownNil 100 8)
          rw [hg]
          (apply Tri.fin; (case hr => rfl); (case h => exact ResL.cons ((Res1.agg rfl (by (with_reducible repeat constructor)) (by rw [List.drop_zero]; exact List.take_of_length_le (Nat.le_of_eq (ndLL_len false (.slice none 0 0) (.slice none 0 0) (.slice none 0 0)))) (ndLL_len false (.slice none 0 0) (.slice none 0 0) (.slice none 0 0)))) (ResL.cons (Res1.tmp rfl) (ResL.nil))); (apply fin_R (Hn := [own 100 8 (.slice none 0 0) 0 []])); (case p => exact (by (repeat first | with_reducible constructor | constructor))); exact ⟨none, 0, rfl, rfl⟩)
/-- what Get tells -/
structure GOT where
  leaf : Bool
  E : List ENT
  K : List KEY
  D : List Int
  e : Nat
def getN (isLeaf : Bool) (l : List UInt8) : GOT := if isLeaf then ⟨decide ((getL l).2 = 0), (getL l).1, [], [], (getL l).2⟩ else ⟨false, [], (getI l).1.1, (getI l).1.2, (getI l).2⟩
theorem node_GetN (isLeaf : Bool) (v : Value) (l : List UInt8) : SpecR Try.prog 54 #[.bool isLeaf, v] (fun w => RdW w v l.length (B8 l)) (fun r H' => ∃ A c B d C e, r = .tuple #[ndW (getN isLeaf l).leaf (.slice A (getN isLeaf l).E.length c) (.slice B (getN isLeaf l).K.length d) (.slice C (getN isLeaf l).D.length e), .int .i64 ((getN isLeaf l).e : Int)]
    ∧ H' = [own 100 8 (.slice A (getN isLeaf l).E.length c) (getN isLeaf l).E.length (EL (getN isLeaf l).E), own 98 2 (.slice B (getN isLeaf l).K.length d) (getN isLeaf l).K.length (KL (getN isLeaf l).K), own 3 1 (.slice C (getN isLeaf l).D.length e) (getN isLeaf l).D.length (NL (getN isLeaf l).D)]) := by
  cases isLeaf
  · refine SpecR.conv (node_Get_inner v l) (fun r H' h => ?_)
    obtain ⟨A, c, B, d, rfl, rfl⟩ := h
    exact ⟨_, ⟨none, 0, A, c, B, d, rfl, rfl⟩, fun w0 w H hw => St.pure1 (own_nil _ _) hw⟩
  · refine SpecR.conv (node_Get_leaf v l) (fun r H' h => ?_)
    obtain ⟨A, c, rfl, rfl⟩ := h
    exact ⟨_, ⟨A, c, none, 0, none, 0, rfl, rfl⟩, fun w0 w H hw => St.pure2 (own_nil _ _) (St.pure2 (own_nil _ _) hw)⟩
end Go.Proofs.Ytckdlfbbkemklaa
end
section
/- Maps of pages, as plain functions. -/
namespace Go.Gv

/-- pages and which are in use -/
structure BM where
  p : Int
  u : List Bool

def useAt (u : List Bool) (i : Nat) : Bool := u.getD i false
/-- what is asked of one page -/
def fitAt (m : BM) (i : Nat) : Bool := !(decide (i < 2) && !useAt m.u i || decide (m.p ≤ i) && useAt m.u i)
def rightM (m : BM) : Bool := decide (8 ≤ m.p) && decide (m.p ≤ 512) && (List.range 512).all (fitAt m)
def newM (p : Int) : BM := ⟨min (max p 8) 512, [true, true] ++ List.replicate 510 false⟩
def zeroM : BM := ⟨0, List.replicate 512 false⟩

/-- how many are free ahead of page k -/
def freeTo (m : BM) : Nat → Nat
  | 0 => 0
  | k + 1 => freeTo m k + if decide ((k : Int) < m.p) && !useAt m.u k then 1 else 0
def freeM (m : BM) : Nat := freeTo m 512

/-- is page i taken in one of both? -/
def bothAt (m o : BM) (i : Nat) : Bool := useAt m.u i || useAt o.u i
/-- how many are free side by side up to page k -/
def runTo (m o : BM) : Nat → Nat
  | 0 => 0
  | k + 1 => if bothAt m o k then 0 else runTo m o k + 1
def alikeM (m o : BM) : Bool := rightM m && rightM o && decide (m.p = o.p)
/-- n pages from one on, turned -/
def setFrom (u : List Bool) (b : Bool) (at_ : Nat) : Nat → List Bool
  | 0 => u
  | k + 1 => (setFrom u b at_ k).set (at_ + k) b
theorem setFrom_length (u : List Bool) (b : Bool) (a : Nat) : ∀ k, (setFrom u b a k).length = u.length
  | 0 => rfl
  | k + 1 => by simp [setFrom, setFrom_length u b a k]
/-- the first place with n side by side, from page k on; 'f' pages are left -/
def seek (m o : BM) (n : Int) : Nat → Nat → Option Nat
  | 0, _ => none
  | f + 1, k => if (runTo m o (k + 1) : Int) = n then some (k + 1 - n.toNat) else seek m o n f (k + 1)
def takeM (m o : BM) (n : Int) : BM × Int × Nat :=
  if !alikeM m o || decide (n < 1) then (zeroM, 0, 1)
  else match seek m o n m.p.toNat 0 with
    | some at_ => (⟨m.p, setFrom m.u true at_ n.toNat⟩, at_, 0)
    | none => (zeroM, 0, 5)
/-- are n pages from one on in use? -/
def allUsed (m : BM) (at_ n : Nat) : Bool := (List.range n).all fun i => useAt m.u (at_ + i)
def giveM (m : BM) (at_ n : Int) : BM × Nat :=
  if !rightM m || decide (n < 0) || decide (at_ < 2) || decide (m.p < at_) || decide (m.p - at_ < n) then (zeroM, 1)
  else if allUsed m at_.toNat n.toNat then (⟨m.p, setFrom m.u false at_.toNat n.toNat⟩, 0) else (zeroM, 10)
theorem fit_all {m : BM} (h : ∀ j, j < 512 → fitAt m j = true) : (List.range 512).all (fitAt m) = true := List.all_eq_true.2 (fun j hj => h j (List.mem_range.1 hj))
theorem fit_none {m : BM} {i : Nat} (hi : i < 512) (h : fitAt m i = false) : (List.range 512).all (fitAt m) = false := by
  cases hh : (List.range 512).all (fitAt m)
  · rfl
  · rw [List.all_eq_true.1 hh i (List.mem_range.2 hi)] at h; cases h
end Go.Gv
end
section
/- bitmap: what its functions answer. -/
namespace Go.Proofs.Ytckdlfbbkemklaa
open Go Go.RowKit Go.Gv
set_option linter.unusedVariables false

def bmL (m : BM) : List Value := .int .i64 m.p :: m.u.map .bool
def bmV (m : BM) : Value := .agg (bmL m).toArray
theorem bmL_length (m : BM) (h : m.u.length = 512) : (bmL m).length = 513 := by simp [bmL, h]
theorem bmL_one (m : BM) : ∀ y ∈ bmL m, y.oneCell' = true := by
  intro y hy; simp [bmL] at hy; rcases hy with rfl | ⟨_, rfl⟩ | ⟨_, rfl⟩ <;> rfl
theorem useAt_get (u : List Bool) (i : Nat) (h : i < u.length) : (u.map Value.bool)[i]? = some (.bool (useAt u i)) := by
  simp [useAt, h]
theorem bmL_get (m : BM) (i : Nat) (h : i < m.u.length) : (bmL m)[i + 1]? = some (.bool (useAt m.u i)) := by
  rw [bmL, List.getElem?_cons_succ]; exact useAt_get m.u i h
theorem bmL_set (m : BM) (i : Nat) (b : Bool) : (bmL m).set (i + 1) (.bool b) = bmL ⟨m.p, m.u.set i b⟩ := by simp [bmL, List.map_set]
theorem bmL_zero : bmL zeroM = [.int .i64 0] ++ List.replicate 512 (.bool false) := by rw [bmL, zeroM, List.map_replicate]; rfl
theorem bmL_drop (m : BM) (h : m.u.length = 512) : ((bmL m).drop 1).take 512 = m.u.map .bool := by
  rw [bmL, List.drop_succ_cons, List.drop_zero, List.take_of_length_le (by simp [h])]

set_option maxHeartbeats 400000 in
theorem bm_Right (m : BM) (hm : m.u.length = 512) : SpecR Try.prog 98 #[bmV m] (fun _ => True) (fun r H' => r = .bool (rightM m) ∧ H' = []) := by
  refine SpecR.of (fun w _ => ?_)
  refine Calls.enter Try.func98 rfl rfl rfl (St.rebase w) ?_
  simp only [argSlots]
  (refine Tri.seq (Tri.region ?_); apply Tri.op; rfl)
  (first | (apply o_boxA; (case hx => rfl); (case hn => rfl); intro bt) | (apply o_box1; (case hx => rfl); (case h1 => rfl); (case hn => rfl); intro bt))
  (apply Tri.op; rfl; apply o_assign; rfl; rfl; refine Tri.nil (Tri.thenN (Tri.seq (Tri.seq (Tri.region ?_)))); apply Tri.op; rfl; apply o_fieldAddr; rfl; rfl; apply Tri.op; rfl; apply o_load; rfl; (with_reducible repeat constructor); rfl; rfl; apply Tri.op; rfl; apply o_lss; rfl; rfl; rfl; apply Tri.op; rfl; apply o_move; rfl; rfl)
  ((with_reducible apply Tri.casesB 8); (case h => rfl); (all_goals intro h8))
  · ((iterate 3 apply Tri.opNo (c := true); (iterate 6 rfl)); apply Tri.op; rfl; apply o_pickT; (iterate 4 rfl); refine Tri.nil (Tri.thenN ?_); apply Tri.condT; rfl; rfl; refine Tri.seq (Tri.region ?_); apply Tri.op; rfl; apply o_assign; rfl; rfl; refine Tri.nil (Tri.thenN (Tri.ret (Tri.thenR ?_))))
    (apply Tri.fin; (case hr => rfl); (case h => (repeat (first | exact ResL.nil | (apply ResL.cons; (case a => (first | exact Res1.tmp rfl | (apply Res1.cell; rfl; (with_reducible repeat constructor); rfl) | (apply Res1.agg; rfl; (with_reducible repeat constructor); rfl; rfl))))))); (apply fin_R (Hn := [])); (case p => (repeat first | with_reducible constructor | constructor)))
    exact ⟨by have h8' := of_decide_eq_true h8; simp only [tupled, rightM]; rw [decide_eq_false (show ¬ 8 ≤ m.p by omega)]; rfl, rfl⟩
  · have h8' := of_decide_eq_false h8
    (apply Tri.opYes; rfl; rfl; rfl; apply o_fieldAddr; rfl; rfl; apply Tri.opYes; rfl; rfl; rfl; apply o_load; rfl; (with_reducible repeat constructor); rfl; rfl; apply Tri.opYes; rfl; rfl; rfl; apply o_gtr; rfl; rfl; rfl; apply Tri.op; rfl; apply o_pickF; (iterate 4 rfl); refine Tri.nil (Tri.thenN ?_))
    (apply Tri.condD; (case hc => rfl); (all_goals intro h9))
    · (refine Tri.seq (Tri.region ?_); apply Tri.op; rfl; apply o_assign; rfl; rfl; refine Tri.nil (Tri.thenN (Tri.ret (Tri.thenR ?_))))
      (apply Tri.fin; (case hr => rfl); (case h => (repeat (first | exact ResL.nil | (apply ResL.cons; (case a => (first | exact Res1.tmp rfl | (apply Res1.cell; rfl; (with_reducible repeat constructor); rfl) | (apply Res1.agg; rfl; (with_reducible repeat constructor); rfl; rfl))))))); (apply fin_R (Hn := [])); (case p => (repeat first | with_reducible constructor | constructor)))
      exact ⟨by simp only [tupled, rightM]; rw [decide_eq_false (show ¬ m.p ≤ 512 by omega), Bool.and_false, Bool.false_and], rfl⟩
    · (refine Tri.skip (Tri.thenN (Tri.seq (Tri.seq (Tri.region ?_)))); apply Tri.op; rfl; apply o_fieldAddr; rfl; rfl; apply Tri.op; rfl)
      (apply o_loadAgg; (case hx => rfl); (case p => (with_reducible repeat constructor)); (case hv => exact bmL_drop m hm); (case hl => (rw [List.length_map]; exact hm)); (case hn => rfl))
      (apply Tri.op; rfl; apply o_move; rfl; rfl; refine Tri.nil (Tri.thenN (Tri.block ?_)))
      (apply Tri.loop (α := { i : Nat // i ≤ 512 ∧ ∀ j, j < i → fitAt m j = true }) (m := fun x => 512 - x.1) (Lx := fun x => [(1, .pointer (some ⟨bt, 0, none⟩)), (14, .agg (m.u.map Value.bool).toArray), (15, .int .i64 (x.1 : Int))]) (Hx := fun _ => [blk bt 149 (bmL m), Ex (hp w)]) (x0 := ⟨0, Nat.zero_le _, fun j hj => absurd hj (Nat.not_lt_zero j)⟩); (case hL => ((try dsimp only); (repeat (first | exact trivial | refine And.intro (by rfl) ?_)))); (case hH => ((try dsimp only); apply St.all; (repeat first | with_reducible constructor | constructor)))); (rintro ⟨i, hi, hf⟩ mx hmx; (try dsimp only at hmx ⊢))
      (refine Tri.seq (Tri.region ?_); apply Tri.op; rfl; apply o_lss; rfl; rfl; rfl; refine Tri.nil (Tri.thenN (Tri.seq ?_)))
      (apply Tri.condD; (case hc => rfl); (all_goals intro h))
      · have hi' : i < 512 := by omega
        (refine Tri.skip (Tri.thenN (Tri.seq (Tri.block (Tri.seq (Tri.region ?_))))); apply Tri.op; rfl; apply o_move; rfl; rfl; apply Tri.op; rfl)
        (apply o_index; (case hx => rfl); (case hy => rfl); (case hj => first | rfl | exact (Int.toNat_of_nonneg (by omega)).symm); (case hlt => first | omega | assumption); (case hv => exact useAt_get m.u i (by omega)); (case hn => rfl))
        (apply Tri.op; rfl; apply o_assign; rfl; rfl; apply Tri.op; rfl; apply o_assign; rfl; rfl; refine Tri.nil (Tri.thenN (Tri.seq (Tri.region ?_))); apply Tri.op; rfl; apply o_move; rfl; rfl; apply Tri.op; rfl; apply o_lss; rfl; rfl; rfl; apply Tri.op; rfl; apply o_move; rfl; rfl)
        have no : fitAt m i = false → rightM m = false := fun h0 => by rw [rightM, fit_none hi' h0, Bool.and_false]
        have yes : fitAt m i = true → ∀ j, j < i + 1 → fitAt m j = true := fun h0 j hj => by
          by_cases e : j = i
          · rw [e]; exact h0
          · exact hf j (by omega)
        ((with_reducible apply Tri.casesB 21); (case h => rfl); (all_goals intro h2))
        · have h2' := of_decide_eq_true h2
          (apply Tri.opYes; rfl; rfl; rfl; apply o_move; rfl; rfl; apply Tri.opYes; rfl; rfl; rfl; apply o_not; rfl; rfl; apply Tri.op; rfl; apply o_pickT; (iterate 4 rfl); apply Tri.op; rfl; apply o_move; rfl; rfl)
          ((with_reducible apply Tri.casesB 25); (case h => rfl); (all_goals intro h3))
          · ((iterate 5 apply Tri.opNo (c := true); (iterate 6 rfl)); apply Tri.opNoU; (iterate 4 rfl); apply Tri.opNo (c := true); (iterate 6 rfl); apply Tri.op; rfl; apply o_pickT; (iterate 4 rfl); refine Tri.nil (Tri.thenN ?_); apply Tri.condT; rfl; rfl; refine Tri.seq (Tri.region ?_); apply Tri.op; rfl; apply o_assign; rfl; rfl; refine Tri.nil (Tri.thenN (Tri.ret (Tri.blockR (Tri.thenR (Tri.thenR (Tri.blockR (Tri.thenR ?_))))))))
            (apply Tri.fin; (case hr => rfl); (case h => (repeat (first | exact ResL.nil | (apply ResL.cons; (case a => (first | exact Res1.tmp rfl | (apply Res1.cell; rfl; (with_reducible repeat constructor); rfl) | (apply Res1.agg; rfl; (with_reducible repeat constructor); rfl; rfl))))))); (apply fin_R (Hn := [])); (case p => (repeat first | with_reducible constructor | constructor)))
            exact ⟨by simp only [tupled]; rw [no (by unfold fitAt; rw [decide_eq_true (show i < 2 by omega), h3]; rfl)], rfl⟩
          · (apply Tri.opYes; rfl; rfl; rfl; apply o_move; rfl; rfl; apply Tri.opYes; rfl; rfl; rfl; apply o_fieldAddr; rfl; rfl; apply Tri.opYes; rfl; rfl; rfl; apply o_load; rfl; (with_reducible repeat constructor); rfl; rfl; apply Tri.opYes; rfl; rfl; rfl; apply o_geq; rfl; rfl; rfl; apply Tri.opYes; rfl; rfl; rfl; apply o_move; rfl; rfl)
            ((with_reducible apply Tri.setb 30 (false)); (case h => rfl); (case hi => exact decide_eq_false (by omega)))
            (apply Tri.opNo (c := false); (iterate 6 rfl); apply Tri.opYes; rfl; rfl; rfl; apply o_pickF; (iterate 4 rfl); apply Tri.op; rfl; apply o_pickF; (iterate 4 rfl); refine Tri.nil (Tri.thenN ?_); apply Tri.condF; rfl; rfl; refine Tri.skip (Tri.blockN (Tri.thenN (Tri.region ?_))); apply Tri.op; rfl; apply o_add64; rfl; rfl; rfl; (omega); apply Tri.op; rfl; apply o_move; rfl; rfl; refine Tri.nil (Tri.thenN ?_))
            ((with_reducible apply Tri.again (y := ⟨i + 1, by omega, yes (by unfold fitAt; rw [h3, decide_eq_false (show ¬ m.p ≤ (i : Int) by omega), Bool.and_false, Bool.false_and]; simp)⟩)); (case p => ((try dsimp only); (repeat (first | exact Pulls.nil | (apply Pulls.cons; (case a => (first | ((repeat (first | with_reducible exact Gv.Pull.head | with_reducible apply Gv.Pull.tail)); done) | (repeat (first | exact Gv.Pull.head | apply Gv.Pull.tail))))))))); (case hm => ((try dsimp only); omega)); (try dsimp only))
            (repeat (first | exact trivial | refine And.intro (by rfl) ?_))
        · have h2' := of_decide_eq_false h2
          ((iterate 2 apply Tri.opNo (c := false); (iterate 6 rfl)); apply Tri.op; rfl; apply o_pickF; (iterate 4 rfl); apply Tri.op; rfl; apply o_move; rfl; rfl; apply Tri.opYes; rfl; rfl; rfl; apply o_move; rfl; rfl; apply Tri.opYes; rfl; rfl; rfl; apply o_fieldAddr; rfl; rfl; apply Tri.opYes; rfl; rfl; rfl; apply o_load; rfl; (with_reducible repeat constructor); rfl; rfl; apply Tri.opYes; rfl; rfl; rfl; apply o_geq; rfl; rfl; rfl; apply Tri.opYes; rfl; rfl; rfl; apply o_move; rfl; rfl)
          ((with_reducible apply Tri.casesB 30); (case h => rfl); (all_goals intro h4))
          · (apply Tri.opYes; rfl; rfl; rfl; apply o_move; rfl; rfl; apply Tri.opYes; rfl; rfl; rfl; apply o_pickT; (iterate 4 rfl); apply Tri.op; rfl; apply o_pickF; (iterate 4 rfl); refine Tri.nil (Tri.thenN ?_))
            (apply Tri.cond; (case hc => rfl); (all_goals intro h5))
            · (refine Tri.seq (Tri.region ?_); apply Tri.op; rfl; apply o_assign; rfl; rfl; refine Tri.nil (Tri.thenN (Tri.ret (Tri.blockR (Tri.thenR (Tri.thenR (Tri.blockR (Tri.thenR ?_))))))))
              (apply Tri.fin; (case hr => rfl); (case h => (repeat (first | exact ResL.nil | (apply ResL.cons; (case a => (first | exact Res1.tmp rfl | (apply Res1.cell; rfl; (with_reducible repeat constructor); rfl) | (apply Res1.agg; rfl; (with_reducible repeat constructor); rfl; rfl))))))); (apply fin_R (Hn := [])); (case p => (repeat first | with_reducible constructor | constructor)))
              exact ⟨by simp only [tupled]; rw [no (by unfold fitAt; rw [decide_eq_true (of_decide_eq_true h4), h5, Bool.and_true, Bool.or_true]; rfl)], rfl⟩
            · (refine Tri.skip (Tri.blockN (Tri.thenN (Tri.region ?_))); apply Tri.op; rfl; apply o_add64; rfl; rfl; rfl; (omega); apply Tri.op; rfl; apply o_move; rfl; rfl; refine Tri.nil (Tri.thenN ?_))
              ((with_reducible apply Tri.again (y := ⟨i + 1, by omega, yes (by unfold fitAt; rw [decide_eq_false (show ¬ i < 2 by omega), h5, Bool.and_false]; simp)⟩)); (case p => ((try dsimp only); (repeat (first | exact Pulls.nil | (apply Pulls.cons; (case a => (first | ((repeat (first | with_reducible exact Gv.Pull.head | with_reducible apply Gv.Pull.tail)); done) | (repeat (first | exact Gv.Pull.head | apply Gv.Pull.tail))))))))); (case hm => ((try dsimp only); omega)); (try dsimp only))
              (repeat (first | exact trivial | refine And.intro (by rfl) ?_))
          · (apply Tri.opNo (c := false); (iterate 6 rfl); apply Tri.opYes; rfl; rfl; rfl; apply o_pickF; (iterate 4 rfl); apply Tri.op; rfl; apply o_pickF; (iterate 4 rfl); refine Tri.nil (Tri.thenN ?_); apply Tri.condF; rfl; rfl; refine Tri.skip (Tri.blockN (Tri.thenN (Tri.region ?_))); apply Tri.op; rfl; apply o_add64; rfl; rfl; rfl; (omega); apply Tri.op; rfl; apply o_move; rfl; rfl; refine Tri.nil (Tri.thenN ?_))
            ((with_reducible apply Tri.again (y := ⟨i + 1, by omega, yes (by unfold fitAt; rw [decide_eq_false (show ¬ i < 2 by omega), decide_eq_false (of_decide_eq_false h4)]; simp)⟩)); (case p => ((try dsimp only); (repeat (first | exact Pulls.nil | (apply Pulls.cons; (case a => (first | ((repeat (first | with_reducible exact Gv.Pull.head | with_reducible apply Gv.Pull.tail)); done) | (repeat (first | exact Gv.Pull.head | apply Gv.Pull.tail))))))))); (case hm => ((try dsimp only); omega)); (try dsimp only))
            (repeat (first | exact trivial | refine And.intro (by rfl) ?_))
      · ((with_reducible refine Tri.exit (Tri.thenE (Tri.thenE (Tri.blockE (Tri.thenN (Tri.seq (Tri.region ?_))))))); apply Tri.op; rfl; apply o_assign; rfl; rfl; refine Tri.nil (Tri.thenN (Tri.ret ?_)))
        have e : i = 512 := by omega
        subst e
        (apply Tri.fin; (case hr => rfl); (case h => (repeat (first | exact ResL.nil | (apply ResL.cons; (case a => (first | exact Res1.tmp rfl | (apply Res1.cell; rfl; (with_reducible repeat constructor); rfl) | (apply Res1.agg; rfl; (with_reducible repeat constructor); rfl; rfl))))))); (apply fin_R (Hn := [])); (case p => (repeat first | with_reducible constructor | constructor)))
        exact ⟨by simp only [tupled, rightM]; rw [decide_eq_true (show 8 ≤ m.p by omega), decide_eq_true (show m.p ≤ 512 by omega), fit_all hf]; rfl, rfl⟩
end Go.Proofs.Ytckdlfbbkemklaa
end
section
/- Maps of pages: plain laws. -/
namespace Go.Gv

theorem freeTo_le (m : BM) : ∀ k, freeTo m k ≤ k
  | 0 => Nat.le_refl _
  | k + 1 => by
    have := freeTo_le m k
    rw [freeTo]; split <;> omega
theorem runTo_le (m o : BM) : ∀ k, runTo m o k ≤ k
  | 0 => Nat.le_refl _
  | k + 1 => by
    have := runTo_le m o k
    rw [runTo]; split <;> omega
theorem rightM_spec {m : BM} (h : rightM m = true) : 8 ≤ m.p ∧ m.p ≤ 512 ∧ ∀ j, j < 512 → fitAt m j = true := by
  simp only [rightM, Bool.and_eq_true, decide_eq_true_eq] at h
  exact ⟨h.1.1, h.1.2, fun j hj => List.all_eq_true.1 h.2 j (List.mem_range.2 hj)⟩
theorem alikeM_spec {m o : BM} (h : alikeM m o = true) : rightM m = true ∧ rightM o = true ∧ m.p = o.p := by
  simp only [alikeM, Bool.and_eq_true, decide_eq_true_eq] at h
  exact ⟨h.1.1, h.1.2, h.2⟩
theorem useAt_set (u : List Bool) (i j : Nat) (b : Bool) (hi : i < u.length) : useAt (u.set i b) j = if j = i then b else useAt u j := by
  unfold useAt
  rw [List.getD_eq_getElem?_getD, List.getElem?_set]
  by_cases h : i = j
  · subst h; simp [hi]
  · rw [if_neg h, if_neg (Ne.symm h), ← List.getD_eq_getElem?_getD]
theorem useAt_setFrom (u : List Bool) (b : Bool) (a j : Nat) : ∀ k, a + k ≤ u.length → useAt (setFrom u b a k) j = if a ≤ j ∧ j < a + k then b else useAt u j
  | 0, _ => by rw [setFrom, if_neg (by omega)]
  | k + 1, h => by
    rw [setFrom, useAt_set _ _ _ _ (by rw [setFrom_length]; omega), useAt_setFrom u b a j k (by omega)]
    by_cases h1 : j = a + k
    · rw [if_pos h1, if_pos (by omega)]
    · rw [if_neg h1]
      by_cases h2 : a ≤ j ∧ j < a + k
      · rw [if_pos h2, if_pos (by omega)]
      · rw [if_neg h2, if_neg (by omega)]
theorem newM_length (p : Int) : (newM p).u.length = 512 := by
  show ([true, true] ++ List.replicate 510 false).length = 512
  rw [List.length_append, List.length_replicate]; rfl
theorem zeroM_length : zeroM.u.length = 512 := List.length_replicate
theorem takeM_length (m o : BM) (n : Int) (h : m.u.length = 512) : (takeM m o n).1.u.length = 512 := by
  unfold takeM
  split
  · exact zeroM_length
  · split
    · simp only [setFrom_length]; exact h
    · exact zeroM_length
theorem giveM_length (m : BM) (a n : Int) (h : m.u.length = 512) : (giveM m a n).1.u.length = 512 := by
  unfold giveM
  split
  · exact zeroM_length
  · split
    · simp only [setFrom_length]; exact h
    · exact zeroM_length
end Go.Gv
end
section
/- bitmap: what its functions answer, further. -/
namespace Go.Proofs.Ytckdlfbbkemklaa
open Go Go.RowKit Go.Gv
set_option linter.unusedVariables false

set_option maxHeartbeats 400000 in
theorem bm_alike (m o : BM) (hm : m.u.length = 512) (ho : o.u.length = 512) : SpecR Try.prog 154 #[bmV m, bmV o] (fun _ => True) (fun r H' => r = .bool (alikeM m o) ∧ H' = []) := by
  refine SpecR.of (fun w _ => ?_)
  refine Calls.enter Try.func154 rfl rfl rfl (St.rebase w) ?_
  simp only [argSlots]
  (refine Tri.seq (Tri.region ?_); apply Tri.op; rfl)
  (first | (apply o_boxA; (case hx => rfl); (case hn => rfl); intro bm) | (apply o_box1; (case hx => rfl); (case h1 => rfl); (case hn => rfl); intro bm))
  (apply Tri.op; rfl)
  (first | (apply o_boxA; (case hx => rfl); (case hn => rfl); intro bo) | (apply o_box1; (case hx => rfl); (case h1 => rfl); (case hn => rfl); intro bo))
  (apply Tri.op; rfl; apply o_assign; rfl; rfl; refine Tri.nil (Tri.thenN (Tri.seq (Tri.region ?_))); apply Tri.op; rfl)
  (apply o_loadAll; (case hx => rfl); (case p => (with_reducible repeat constructor)); (case hl => exact bmL_length m hm); (case hn => rfl))
  (apply Tri.op; rfl)
  (apply o_callV (hs := bm_Right m hm); (case hargs => (repeat first | exact evs.nil | (apply evs.cons; case a => rfl))); (case hpre => exact fun _ _ => trivial); (case hn => rfl))
  (apply Tri.op; rfl; apply o_move; rfl; rfl)
  ((with_reducible apply Tri.casesB 7); (case h => rfl); (all_goals intro h1))
  · (apply Tri.opYes; rfl; rfl; rfl)
    (apply o_loadAll; (case hx => rfl); (case p => (with_reducible repeat constructor)); (case hl => exact bmL_length o ho); (case hn => rfl))
    (apply Tri.opYes; rfl; rfl; rfl)
    (apply o_callV (hs := bm_Right o ho); (case hargs => (repeat first | exact evs.nil | (apply evs.cons; case a => rfl))); (case hpre => exact fun _ _ => trivial); (case hn => rfl))
    (apply Tri.op; rfl; apply o_pickT; (iterate 4 rfl); apply Tri.op; rfl; apply o_move; rfl; rfl)
    ((with_reducible apply Tri.casesB 11); (case h => rfl); (all_goals intro h2))
    · (apply Tri.opYes; rfl; rfl; rfl; apply o_fieldAddr; rfl; rfl; apply Tri.opYes; rfl; rfl; rfl; apply o_load; rfl; (with_reducible repeat constructor); rfl; rfl; apply Tri.opYes; rfl; rfl; rfl; apply o_fieldAddr; rfl; rfl; apply Tri.opYes; rfl; rfl; rfl; apply o_load; rfl; (with_reducible repeat constructor); rfl; rfl; apply Tri.opYes; rfl; rfl; rfl; apply o_eql; rfl; rfl; rfl; apply Tri.op; rfl; apply o_pickT; (iterate 4 rfl); apply Tri.op; rfl; apply o_assign; rfl; rfl; refine Tri.nil (Tri.thenN (Tri.ret ?_)))
      (apply Tri.fin; (case hr => rfl); (case h => exact ResL.cons (Res1.tmp rfl) (ResL.nil)); (apply fin_R (Hn := [])); (case p => exact (by (repeat first | with_reducible constructor | constructor))); exact ⟨by simp only [tupled]; (rw [alikeM, h1, h2]; rfl), rfl⟩)
    · ((iterate 5 apply Tri.opNo (c := false); (iterate 6 rfl)); apply Tri.op; rfl; apply o_pickF; (iterate 4 rfl); apply Tri.op; rfl; apply o_assign; rfl; rfl; refine Tri.nil (Tri.thenN (Tri.ret ?_)))
      (apply Tri.fin; (case hr => rfl); (case h => exact ResL.cons (Res1.tmp rfl) (ResL.nil)); (apply fin_R (Hn := [])); (case p => exact (by (repeat first | with_reducible constructor | constructor))); exact ⟨by simp only [tupled]; (rw [alikeM, h1, h2]; rfl), rfl⟩)
  · ((iterate 2 apply Tri.opNo (c := false); (iterate 6 rfl)); apply Tri.op; rfl; apply o_pickF; (iterate 4 rfl); apply Tri.op; rfl; apply o_move; rfl; rfl; (iterate 5 apply Tri.opNo (c := false); (iterate 6 rfl)); apply Tri.op; rfl; apply o_pickF; (iterate 4 rfl); apply Tri.op; rfl; apply o_assign; rfl; rfl; refine Tri.nil (Tri.thenN (Tri.ret ?_)))
    (apply Tri.fin; (case hr => rfl); (case h => exact ResL.cons (Res1.tmp rfl) (ResL.nil)); (apply fin_R (Hn := [])); (case p => exact (by (repeat first | with_reducible constructor | constructor))); exact ⟨by simp only [tupled]; (rw [alikeM, h1]; rfl), rfl⟩)

theorem z513 : ([.int .i64 0] ++ List.replicate 512 (.bool false) : List Value).length = 513 := by rw [List.length_append, List.length_replicate]; rfl
theorem fill_first (place : Nat → Option (Nat × Nat)) (v : Int) (zs : List Value) (h : place 0 = some (0, 1)) : fillL place (.int .i64 0 :: zs) [(0, .int .i64 v)] = some (.int .i64 v :: zs) := by
  have e : Nat.ble 1 (zs.length + 1) = true := by rw [Nat.ble_eq]; omega
  simp [fillL, h, Value.cells, e]
theorem fill_map (p : Int) : fillL (fun i => [(0, 1), (1, 512)][i]?) ([.int .i64 0] ++ List.replicate 512 (.bool false)) [(0, .int .i64 p)] = some (bmL ⟨p, List.replicate 512 false⟩) := by
  rw [bmL, List.map_replicate, List.singleton_append]
  exact fill_first _ _ _ rfl

set_option maxHeartbeats 400000 in
theorem bm_New (p : Int) : SpecR Try.prog 67 #[.int .i64 p] (fun _ => True) (fun r H' => r = bmV (newM p) ∧ H' = []) := by
  refine SpecR.of (fun w _ => ?_)
  refine Calls.enter Try.func67 rfl rfl rfl (St.rebase w) ?_
  simp only [argSlots]
  (refine Tri.seq (Tri.region ?_); apply Tri.op; rfl)
  (apply o_alloc; (case hn => rfl); intro br)
  (refine Tri.nil (Tri.thenN (Tri.seq (Tri.region ?_))); apply Tri.op; rfl; apply o_move; rfl; rfl; apply Tri.op; rfl; apply o_max; rfl; rfl; rfl; apply Tri.op; rfl; apply o_min; rfl; rfl; rfl; apply Tri.op; rfl)
  (apply o_build; (case hp => (repeat first | exact pev.nil | (apply pev.cons; case a => rfl))); (case hf => exact fill_map _); (case hn => rfl))
  (apply Tri.op; rfl)
  (apply o_alloc; (case hn => rfl); intro bt)
  (apply Tri.op; rfl)
  (apply o_storeAll; (case hx => rfl); (case hy => rfl); (case p => (with_reducible repeat constructor)); (case hl => exact bmL_length _ List.length_replicate); (case hc => exact z513); (case h1 => exact bmL_one _))
  (refine Tri.nil (Tri.thenN (Tri.seq (Tri.seq (Tri.region ?_)))); apply Tri.op; rfl; apply o_move; rfl; rfl; refine Tri.nil (Tri.thenN (Tri.block ?_)))
  ((with_reducible apply Tri.eqA (A := blk bt _ _) (B := blk bt 149 (bmL ⟨min (max p 8) 512, List.replicate 0 true ++ List.replicate (512 - 0) false⟩))); (case p => (with_reducible repeat constructor)); (case e => (simp only [List.replicate_zero, List.nil_append, Nat.sub_zero])))
  (apply Tri.loop (α := { k : Nat // k ≤ 2 }) (m := fun x => 2 - x.1) (Lx := fun x => [(2, .pointer (some ⟨br, 0, none⟩)), (3, .pointer (some ⟨bt, 0, none⟩)), (9, .int .i64 (x.1 : Int))]) (Hx := fun x => [blk br 149 ([.int .i64 0] ++ List.replicate 512 (.bool false)), blk bt 149 (bmL ⟨min (max p 8) 512, List.replicate x.1 true ++ List.replicate (512 - x.1) false⟩), Ex (hp w)]) (x0 := ⟨0, Nat.zero_le _⟩); (case hL => ((try dsimp only); (repeat (first | exact trivial | refine And.intro (by rfl) ?_)))); (case hH => ((try dsimp only); apply St.all; (repeat first | with_reducible constructor | constructor)))); (rintro ⟨k, hk⟩ mx hmx; (try dsimp only at hmx ⊢))
  (refine Tri.seq (Tri.region ?_); apply Tri.op; rfl; apply o_lss; rfl; rfl; rfl; refine Tri.nil (Tri.thenN (Tri.seq ?_)))
  (apply Tri.condD; (case hc => rfl); (all_goals intro h))
  · have hk' : k < 2 := by omega
    have hlen : (List.replicate k true ++ List.replicate (512 - k) false).length = 512 := by simp; omega
    (refine Tri.skip (Tri.thenN (Tri.seq (Tri.block (Tri.seq (Tri.region ?_))))); apply Tri.op; rfl; apply o_move; rfl; rfl; apply Tri.op; rfl; apply o_assign; rfl; rfl; refine Tri.nil (Tri.thenN (Tri.region ?_)); apply Tri.op; rfl; apply o_move; rfl; rfl; apply Tri.op; rfl; apply o_fieldAddr; rfl; rfl; apply Tri.op; rfl; apply o_ixArr; rfl; rfl; (first | rfl | exact (Int.toNat_of_nonneg (by omega)).symm); (first | omega | assumption); rfl; apply Tri.op; rfl)
    (apply o_store; (case hx => rfl); (case hy => rfl); (case h1 => rfl); (case p => (with_reducible repeat constructor)); (case hi => (rw [bmL_length _ hlen]; omega)))
    have es : ((List.replicate k true ++ List.replicate (512 - k) false).set k true) = List.replicate (k + 1) true ++ List.replicate (512 - (k + 1)) false := by
      have : k = 0 ∨ k = 1 := by omega
      rcases this with rfl | rfl <;> rfl
    ((with_reducible apply Tri.eqA (A := blk bt _ _) (B := blk bt 149 (bmL ⟨min (max p 8) 512, List.replicate (k + 1) true ++ List.replicate (512 - (k + 1)) false⟩))); (case p => (with_reducible repeat constructor)); (case e => (rw [Nat.zero_add, Nat.mul_one, Nat.add_comm 1 k, bmL_set]; simp only [es])))
    (refine Tri.nil (Tri.blockN (Tri.thenN (Tri.region ?_))); apply Tri.op; rfl; apply o_add64; rfl; rfl; rfl; (omega); apply Tri.op; rfl; apply o_move; rfl; rfl; refine Tri.nil (Tri.thenN ?_))
    (apply Tri.again (y := ⟨k + 1, by omega⟩); (case p => ((try dsimp only); (repeat (first | exact Pulls.nil | (apply Pulls.cons; (case a => (first | ((repeat (first | with_reducible exact Gv.Pull.head | with_reducible apply Gv.Pull.tail)); done) | (repeat (first | exact Gv.Pull.head | apply Gv.Pull.tail))))))))); (case hm => ((try dsimp only); omega)); (try dsimp only))
    (repeat (first | exact trivial | refine And.intro (by rfl) ?_))
  · have e : k = 2 := by omega
    subst e
    ((with_reducible refine Tri.exit (Tri.thenE (Tri.thenE (Tri.blockE (Tri.thenN (Tri.seq (Tri.region ?_))))))); apply Tri.op; rfl)
    ((with_reducible apply Tri.eqA (A := blk bt _ _) (B := blk bt 149 (bmL (newM p)))); (case p => (with_reducible repeat constructor)); (case e => rfl))
    (apply o_loadAll; (case hx => rfl); (case p => (with_reducible repeat constructor)); (case hl => exact bmL_length _ (newM_length p)); (case hn => rfl))
    (apply Tri.op; rfl)
    (apply o_storeAll; (case hx => rfl); (case hy => rfl); (case p => (with_reducible repeat constructor)); (case hl => exact bmL_length _ (newM_length p)); (case hc => exact z513); (case h1 => exact bmL_one _))
    (refine Tri.nil (Tri.thenN (Tri.ret ?_)))
    (apply Tri.fin; (case hr => rfl); (case h => exact ResL.cons ((Res1.agg rfl (by (with_reducible repeat constructor)) (by rw [List.drop_zero]; exact List.take_of_length_le (Nat.le_of_eq (bmL_length _ (newM_length p)))) (bmL_length _ (newM_length p)))) (ResL.nil)); (apply fin_R (Hn := [])); (case p => exact (by (repeat first | with_reducible constructor | constructor))); exact ⟨by simp only [tupled]; rfl, rfl⟩)

set_option maxHeartbeats 400000 in
theorem bm_Free (m : BM) (hm : m.u.length = 512) : SpecR Try.prog 71 #[bmV m] (fun _ => True) (fun r H' => r = .int .i64 (freeM m : Int) ∧ H' = []) := by
  refine SpecR.of (fun w _ => ?_)
  refine Calls.enter Try.func71 rfl rfl rfl (St.rebase w) ?_
  simp only [argSlots]
  (refine Tri.seq (Tri.region ?_); apply Tri.op; rfl)
  (first | (apply o_boxA; (case hx => rfl); (case hn => rfl); intro bt) | (apply o_box1; (case hx => rfl); (case h1 => rfl); (case hn => rfl); intro bt))
  (apply Tri.op; rfl; apply o_assign; rfl; rfl; refine Tri.nil (Tri.thenN (Tri.seq (Tri.region ?_))); apply Tri.op; rfl; apply o_assign; rfl; rfl; refine Tri.nil (Tri.thenN (Tri.seq (Tri.seq (Tri.region ?_)))); apply Tri.op; rfl; apply o_fieldAddr; rfl; rfl; apply Tri.op; rfl)
  (apply o_loadAgg; (case hx => rfl); (case p => (with_reducible repeat constructor)); (case hv => exact bmL_drop m hm); (case hl => (rw [List.length_map]; exact hm)); (case hn => rfl))
  (apply Tri.op; rfl; apply o_move; rfl; rfl; refine Tri.nil (Tri.thenN (Tri.block ?_)))
  (apply Tri.loop (α := { i : Nat // i ≤ 512 }) (m := fun x => 512 - x.1) (Lx := fun x => [(1, .pointer (some ⟨bt, 0, none⟩)), (7, .agg (m.u.map Value.bool).toArray), (8, .int .i64 (x.1 : Int)), (3, .int .i64 (freeTo m x.1 : Int))]) (Hx := fun _ => [blk bt 149 (bmL m), Ex (hp w)]) (x0 := ⟨0, Nat.zero_le _⟩); (case hL => ((try dsimp only); (repeat (first | exact trivial | refine And.intro (by rfl) ?_)))); (case hH => ((try dsimp only); apply St.all; (repeat first | with_reducible constructor | constructor)))); (rintro ⟨i, hi⟩ mx hmx; (try dsimp only at hmx ⊢))
  (refine Tri.seq (Tri.region ?_); apply Tri.op; rfl; apply o_lss; rfl; rfl; rfl; refine Tri.nil (Tri.thenN (Tri.seq ?_)))
  (apply Tri.condD; (case hc => rfl); (all_goals intro h))
  · have hi' : i < 512 := by omega
    have hfl := freeTo_le m i
    (refine Tri.skip (Tri.thenN (Tri.seq (Tri.block (Tri.seq (Tri.region ?_))))); apply Tri.op; rfl; apply o_move; rfl; rfl; apply Tri.op; rfl)
    (apply o_index; (case hx => rfl); (case hy => rfl); (case hj => first | rfl | exact (Int.toNat_of_nonneg (by omega)).symm); (case hlt => first | omega | assumption); (case hv => exact useAt_get m.u i (by omega)); (case hn => rfl))
    (apply Tri.op; rfl; apply o_assign; rfl; rfl; apply Tri.op; rfl; apply o_assign; rfl; rfl; refine Tri.nil (Tri.thenN (Tri.seq (Tri.region ?_))); apply Tri.op; rfl; apply o_move; rfl; rfl; apply Tri.op; rfl; apply o_fieldAddr; rfl; rfl; apply Tri.op; rfl; apply o_load; rfl; (with_reducible repeat constructor); rfl; rfl; apply Tri.op; rfl; apply o_lss; rfl; rfl; rfl; apply Tri.op; rfl; apply o_move; rfl; rfl)
    ((with_reducible apply Tri.casesB 16); (case h => rfl); (all_goals intro h2))
    · (apply Tri.opYes; rfl; rfl; rfl; apply o_move; rfl; rfl; apply Tri.opYes; rfl; rfl; rfl; apply o_not; rfl; rfl; apply Tri.op; rfl; apply o_pickT; (iterate 4 rfl); refine Tri.nil (Tri.thenN ?_))
      (apply Tri.cond; (case hc => rfl); (all_goals intro h3))
      · (refine Tri.region ?_; apply Tri.op; rfl; apply o_move; rfl; rfl; apply Tri.op; rfl; apply o_add64; rfl; rfl; rfl; (omega); apply Tri.op; rfl; apply o_assign; rfl; rfl; refine Tri.nil (Tri.blockN (Tri.thenN (Tri.region ?_))); apply Tri.op; rfl; apply o_add64; rfl; rfl; rfl; (omega); apply Tri.op; rfl; apply o_move; rfl; rfl; refine Tri.nil (Tri.thenN ?_))
        ((with_reducible apply Tri.seti 3 ((freeTo m (i + 1) : Int))); (case h => rfl); (case hi => (rw [freeTo, h2, h3]; rfl)))
        (apply Tri.again (y := ⟨i + 1, by omega⟩); (case p => ((try dsimp only); (repeat (first | exact Pulls.nil | (apply Pulls.cons; (case a => (first | ((repeat (first | with_reducible exact Gv.Pull.head | with_reducible apply Gv.Pull.tail)); done) | (repeat (first | exact Gv.Pull.head | apply Gv.Pull.tail))))))))); (case hm => ((try dsimp only); omega)); (try dsimp only))
        (repeat (first | exact trivial | refine And.intro (by rfl) ?_))
      · (refine Tri.skip (Tri.blockN (Tri.thenN (Tri.region ?_))); apply Tri.op; rfl; apply o_add64; rfl; rfl; rfl; (omega); apply Tri.op; rfl; apply o_move; rfl; rfl; refine Tri.nil (Tri.thenN ?_))
        ((with_reducible apply Tri.seti 3 ((freeTo m (i + 1) : Int))); (case h => rfl); (case hi => (rw [freeTo, h2, h3]; rfl)))
        (apply Tri.again (y := ⟨i + 1, by omega⟩); (case p => ((try dsimp only); (repeat (first | exact Pulls.nil | (apply Pulls.cons; (case a => (first | ((repeat (first | with_reducible exact Gv.Pull.head | with_reducible apply Gv.Pull.tail)); done) | (repeat (first | exact Gv.Pull.head | apply Gv.Pull.tail))))))))); (case hm => ((try dsimp only); omega)); (try dsimp only))
        (repeat (first | exact trivial | refine And.intro (by rfl) ?_))
    · ((iterate 2 apply Tri.opNo (c := false); (iterate 6 rfl)); apply Tri.op; rfl; apply o_pickF; (iterate 4 rfl); refine Tri.nil (Tri.thenN ?_); apply Tri.condF; rfl; rfl; refine Tri.skip (Tri.blockN (Tri.thenN (Tri.region ?_))); apply Tri.op; rfl; apply o_add64; rfl; rfl; rfl; (omega); apply Tri.op; rfl; apply o_move; rfl; rfl; refine Tri.nil (Tri.thenN ?_))
      ((with_reducible apply Tri.seti 3 ((freeTo m (i + 1) : Int))); (case h => rfl); (case hi => (rw [freeTo, h2]; rfl)))
      (apply Tri.again (y := ⟨i + 1, by omega⟩); (case p => ((try dsimp only); (repeat (first | exact Pulls.nil | (apply Pulls.cons; (case a => (first | ((repeat (first | with_reducible exact Gv.Pull.head | with_reducible apply Gv.Pull.tail)); done) | (repeat (first | exact Gv.Pull.head | apply Gv.Pull.tail))))))))); (case hm => ((try dsimp only); omega)); (try dsimp only))
      (repeat (first | exact trivial | refine And.intro (by rfl) ?_))
  · have e : i = 512 := by omega
    subst e
    ((with_reducible refine Tri.exit (Tri.thenE (Tri.thenE (Tri.blockE (Tri.thenN (Tri.seq (Tri.region ?_))))))); apply Tri.op; rfl; apply o_move; rfl; rfl; apply Tri.op; rfl; apply o_assign; rfl; rfl; refine Tri.nil (Tri.thenN (Tri.ret ?_)))
    (apply Tri.fin; (case hr => rfl); (case h => exact ResL.cons (Res1.tmp rfl) (ResL.nil)); (apply fin_R (Hn := [])); (case p => exact (by (repeat first | with_reducible constructor | constructor))); exact ⟨by simp only [tupled]; rfl, rfl⟩)
end Go.Proofs.Ytckdlfbbkemklaa
end
section
/- bitmap.Take. -/
namespace Go.Proofs.Ytckdlfbbkemklaa
open Go Go.RowKit Go.Gv
set_option linter.unusedVariables false

theorem z_one : ∀ y ∈ ([.int .i64 0] ++ List.replicate 512 (.bool false) : List Value), y.oneCell' = true := by
  rw [← bmL_zero]; exact bmL_one zeroM
theorem off_get (m : BM) (i : Nat) (h : i < m.u.length) : (bmL m)[0 + 1 + i * 1]? = some (.bool (useAt m.u i)) := by
  rw [Nat.zero_add, Nat.mul_one, Nat.add_comm 1 i]; exact bmL_get m i h
theorem off_set (m : BM) (i : Nat) (b : Bool) : (bmL m).set (0 + 1 + i * 1) (.bool b) = bmL ⟨m.p, m.u.set i b⟩ := by
  rw [Nat.zero_add, Nat.mul_one, Nat.add_comm 1 i]; exact bmL_set m i b
theorem bmV_zero : bmV zeroM = .agg ([.int .i64 0] ++ List.replicate 512 (.bool false) : List Value).toArray := by rw [bmV, bmL_zero]

set_option maxHeartbeats 1000000 in
theorem bm_Take (m o : BM) (n : Int) (hm : m.u.length = 512) (ho : o.u.length = 512) : SpecR Try.prog 142 #[bmV m, bmV o, .int .i64 n] (fun _ => True) (fun r H' => r = .tuple #[bmV (takeM m o n).1, .int .i64 (takeM m o n).2.1, .int .i64 ((takeM m o n).2.2 : Int)] ∧ H' = []) := by
  refine SpecR.of (fun w _ => ?_)
  refine Calls.enter Try.func142 rfl rfl rfl (St.rebase w) ?_
  simp only [argSlots]
  (refine Tri.seq (Tri.region ?_); apply Tri.op; rfl)
  (first | (apply o_boxA; (case hx => rfl); (case hn => rfl); intro bm) | (apply o_box1; (case hx => rfl); (case h1 => rfl); (case hn => rfl); intro bm))
  (apply Tri.op; rfl)
  (first | (apply o_boxA; (case hx => rfl); (case hn => rfl); intro bo) | (apply o_box1; (case hx => rfl); (case h1 => rfl); (case hn => rfl); intro bo))
  (apply Tri.op; rfl)
  (apply o_alloc; (case hn => rfl); intro br)
  (apply Tri.op; rfl; apply o_assign; rfl; rfl; apply Tri.op; rfl; apply o_assign; rfl; rfl; refine Tri.nil (Tri.thenN (Tri.seq (Tri.seq (Tri.region ?_)))); apply Tri.op; rfl)
  (apply o_loadAll; (case hx => rfl); (case p => (with_reducible repeat constructor)); (case hl => exact bmL_length m hm); (case hn => rfl))
  (apply Tri.op; rfl)
  (apply o_loadAll; (case hx => rfl); (case p => (with_reducible repeat constructor)); (case hl => exact bmL_length o ho); (case hn => rfl))
  (apply Tri.op; rfl)
  (apply o_callV (hs := bm_alike m o hm ho); (case hargs => (repeat first | exact evs.nil | (apply evs.cons; case a => rfl))); (case hpre => exact fun _ _ => trivial); (case hn => rfl))
  (apply Tri.op; rfl; apply o_not; rfl; rfl; apply Tri.op; rfl; apply o_move; rfl; rfl)
  ((with_reducible apply Tri.casesB 17); (case h => rfl); (all_goals intro h1))
  · ((iterate 2 apply Tri.opNo (c := true); (iterate 6 rfl)); apply Tri.op; rfl; apply o_pickT; (iterate 4 rfl); refine Tri.nil (Tri.thenN ?_); apply Tri.condT; rfl; rfl; refine Tri.seq (Tri.region ?_); apply Tri.op; rfl; apply o_build0; rfl; apply Tri.op; rfl)
    (apply o_storeAll; (case hx => rfl); (case hy => rfl); (case p => (with_reducible repeat constructor)); (case hl => exact z513); (case hc => exact z513); (case h1 => exact z_one))
    (apply Tri.op; rfl; apply o_assign; rfl; rfl; apply Tri.op; rfl; apply o_assign; rfl; rfl; refine Tri.nil (Tri.thenN (Tri.ret (Tri.thenR ?_))))
    (apply Tri.fin; (case hr => rfl); (case h => exact ResL.cons ((Res1.agg rfl (by (with_reducible repeat constructor)) (by rw [List.drop_zero]; exact List.take_of_length_le (Nat.le_of_eq z513)) z513)) (ResL.cons (Res1.tmp rfl) (ResL.cons (Res1.tmp rfl) (ResL.nil)))); (apply fin_R (Hn := [])); (case p => exact (by (repeat first | with_reducible constructor | constructor))); exact ⟨by simp only [tupled]; (rw [takeM, h1, Bool.true_or, if_pos rfl, bmV_zero]; rfl), rfl⟩)
  · (apply Tri.opYes; rfl; rfl; rfl; apply o_move; rfl; rfl; apply Tri.opYes; rfl; rfl; rfl; apply o_lss; rfl; rfl; rfl; apply Tri.op; rfl; apply o_pickF; (iterate 4 rfl); refine Tri.nil (Tri.thenN ?_))
    (apply Tri.condD; (case hc => rfl); (all_goals intro h2))
    · (refine Tri.seq (Tri.region ?_); apply Tri.op; rfl; apply o_build0; rfl; apply Tri.op; rfl)
      (apply o_storeAll; (case hx => rfl); (case hy => rfl); (case p => (with_reducible repeat constructor)); (case hl => exact z513); (case hc => exact z513); (case h1 => exact z_one))
      (apply Tri.op; rfl; apply o_assign; rfl; rfl; apply Tri.op; rfl; apply o_assign; rfl; rfl; refine Tri.nil (Tri.thenN (Tri.ret (Tri.thenR ?_))))
      (apply Tri.fin; (case hr => rfl); (case h => exact ResL.cons ((Res1.agg rfl (by (with_reducible repeat constructor)) (by rw [List.drop_zero]; exact List.take_of_length_le (Nat.le_of_eq z513)) z513)) (ResL.cons (Res1.tmp rfl) (ResL.cons (Res1.tmp rfl) (ResL.nil)))); (apply fin_R (Hn := [])); (case p => exact (by (repeat first | with_reducible constructor | constructor))); exact ⟨by simp only [tupled]; (rw [takeM, h1, decide_eq_true h2, Bool.false_or, if_pos rfl, bmV_zero]; rfl), rfl⟩)
    · have hal := alikeM_spec (m := m) (o := o) (by cases hq : alikeM m o <;> simp [hq] at h1 ⊢)
      have hr := rightM_spec hal.1
      have ht : takeM m o n = match seek m o n m.p.toNat 0 with
          | some at_ => (⟨m.p, setFrom m.u true at_ n.toNat⟩, (at_ : Int), 0)
          | none => (zeroM, 0, 5) := by
        rw [takeM, h1, decide_eq_false h2, Bool.false_or, if_neg (by simp)]
        all_goals (cases seek m o n m.p.toNat 0 <;> rfl)
      (refine Tri.skip (Tri.thenN (Tri.seq (Tri.region ?_))); apply Tri.op; rfl; apply o_assign; rfl; rfl; refine Tri.nil (Tri.thenN (Tri.seq (Tri.seq (Tri.region ?_)))); apply Tri.op; rfl; apply o_fieldAddr; rfl; rfl; apply Tri.op; rfl; apply o_load; rfl; (with_reducible repeat constructor); rfl; rfl; apply Tri.op; rfl; apply o_move; rfl; rfl; refine Tri.nil (Tri.thenN (Tri.block ?_)))
      (apply Tri.loop (α := { i : Nat // i ≤ m.p.toNat ∧ seek m o n m.p.toNat 0 = seek m o n (m.p.toNat - i) i }) (m := fun x => m.p.toNat - x.1) (Lx := fun x => [(3, .pointer (some ⟨bm, 0, none⟩)), (4, .pointer (some ⟨bo, 0, none⟩)), (6, .pointer (some ⟨br, 0, none⟩)), (2, .int .i64 n), (23, .int .i64 m.p), (24, .int .i64 (x.1 : Int)), (9, .int .i64 (runTo m o x.1 : Int))]) (Hx := fun _ => [blk bm 149 (bmL m), blk bo 149 (bmL o), blk br 149 ([.int .i64 0] ++ List.replicate 512 (.bool false)), Ex (hp w)]) (x0 := ⟨0, Nat.zero_le _, rfl⟩); (case hL => ((try dsimp only); (repeat (first | exact trivial | refine And.intro (by rfl) ?_)))); (case hH => ((try dsimp only); apply St.all; (repeat first | with_reducible constructor | constructor)))); (rintro ⟨i, hi, hs⟩ mx hmx; (try dsimp only at hmx ⊢))
      (refine Tri.seq (Tri.region ?_); apply Tri.op; rfl; apply o_lss; rfl; rfl; rfl; refine Tri.nil (Tri.thenN (Tri.seq ?_)))
      (apply Tri.condD; (case hc => rfl); (all_goals intro h))
      · have hi' : i < m.p.toNat := by omega
        have hrl := runTo_le m o i
        have hf : m.p.toNat - i = (m.p.toNat - (i + 1)) + 1 := by omega
        (refine Tri.skip (Tri.thenN (Tri.seq (Tri.block (Tri.seq (Tri.region ?_))))); apply Tri.op; rfl; apply o_move; rfl; rfl; apply Tri.op; rfl; apply o_assign; rfl; rfl; refine Tri.nil (Tri.thenN (Tri.seq (Tri.seq (Tri.region ?_)))); apply Tri.op; rfl; apply o_move; rfl; rfl; apply Tri.op; rfl; apply o_fieldAddr; rfl; rfl; apply Tri.op; rfl; apply o_ixArr; rfl; rfl; (first | rfl | exact (Int.toNat_of_nonneg (by omega)).symm); (first | omega | assumption); rfl; apply Tri.op; rfl)
        (apply o_load; (case hx => rfl); (case p => (with_reducible repeat constructor)); (case hv => exact off_get m i (by omega)); (case hn => rfl))
        (apply Tri.op; rfl; apply o_move; rfl; rfl)
        ((with_reducible apply Tri.casesB 31); (case h => rfl); (all_goals intro h3))
        · have hru : runTo m o (i + 1) = 0 := by rw [runTo, bothAt, h3]; rfl
          ((iterate 4 apply Tri.opNo (c := true); (iterate 6 rfl)); apply Tri.op; rfl; apply o_pickT; (iterate 4 rfl); refine Tri.nil (Tri.thenN ?_); apply Tri.condT; rfl; rfl; refine Tri.seq (Tri.region ?_); apply Tri.op; rfl; apply o_assign; rfl; rfl; refine Tri.nil (Tri.thenN (Tri.exit (Tri.thenE (Tri.blockE (Tri.thenN (Tri.region ?_)))))); apply Tri.op; rfl; apply o_add64; rfl; rfl; rfl; (omega); apply Tri.op; rfl; apply o_move; rfl; rfl; refine Tri.nil (Tri.thenN ?_))
          ((with_reducible apply Tri.seti 9 ((runTo m o (i + 1) : Int))); (case h => rfl); (case hi => (rw [hru]; rfl)))
          ((with_reducible apply Tri.again (y := ⟨i + 1, by omega, by rw [hs, hf, seek, if_neg (by rw [hru]; omega)]⟩)); (case p => ((try dsimp only); (repeat (first | exact Pulls.nil | (apply Pulls.cons; (case a => (first | ((repeat (first | with_reducible exact Gv.Pull.head | with_reducible apply Gv.Pull.tail)); done) | (repeat (first | exact Gv.Pull.head | apply Gv.Pull.tail))))))))); (case hm => ((try dsimp only); omega)); (try dsimp only))
          (repeat (first | exact trivial | refine And.intro (by rfl) ?_))
        · (apply Tri.opYes; rfl; rfl; rfl; apply o_move; rfl; rfl; apply Tri.opYes; rfl; rfl; rfl; apply o_fieldAddr; rfl; rfl; apply Tri.opYes; rfl; rfl; rfl; apply o_ixArr; rfl; rfl; (first | rfl | exact (Int.toNat_of_nonneg (by omega)).symm); (first | omega | assumption); rfl; apply Tri.opYes; rfl; rfl; rfl)
          (apply o_load; (case hx => rfl); (case p => (with_reducible repeat constructor)); (case hv => exact off_get o i (by omega)); (case hn => rfl))
          (apply Tri.op; rfl; apply o_pickF; (iterate 4 rfl); refine Tri.nil (Tri.thenN ?_))
          (apply Tri.cond; (case hc => rfl); (all_goals intro h4))
          · have hru : runTo m o (i + 1) = 0 := by rw [runTo, bothAt, h4, Bool.or_true]; rfl
            (refine Tri.seq (Tri.region ?_); apply Tri.op; rfl; apply o_assign; rfl; rfl; refine Tri.nil (Tri.thenN (Tri.exit (Tri.thenE (Tri.blockE (Tri.thenN (Tri.region ?_)))))); apply Tri.op; rfl; apply o_add64; rfl; rfl; rfl; (omega); apply Tri.op; rfl; apply o_move; rfl; rfl; refine Tri.nil (Tri.thenN ?_))
            ((with_reducible apply Tri.seti 9 ((runTo m o (i + 1) : Int))); (case h => rfl); (case hi => (rw [hru]; rfl)))
            ((with_reducible apply Tri.again (y := ⟨i + 1, by omega, by rw [hs, hf, seek, if_neg (by rw [hru]; omega)]⟩)); (case p => ((try dsimp only); (repeat (first | exact Pulls.nil | (apply Pulls.cons; (case a => (first | ((repeat (first | with_reducible exact Gv.Pull.head | with_reducible apply Gv.Pull.tail)); done) | (repeat (first | exact Gv.Pull.head | apply Gv.Pull.tail))))))))); (case hm => ((try dsimp only); omega)); (try dsimp only))
            (repeat (first | exact trivial | refine And.intro (by rfl) ?_))
          · have hru : runTo m o (i + 1) = runTo m o i + 1 := by rw [runTo, bothAt, h3, h4]; rfl
            (refine Tri.skip (Tri.thenN (Tri.seq (Tri.region ?_))); apply Tri.op; rfl; apply o_move; rfl; rfl; apply Tri.op; rfl; apply o_add64; rfl; rfl; rfl; (omega); apply Tri.op; rfl; apply o_assign; rfl; rfl; refine Tri.nil (Tri.thenN (Tri.seq (Tri.region ?_))); apply Tri.op; rfl; apply o_move; rfl; rfl; apply Tri.op; rfl; apply o_move; rfl; rfl; apply Tri.op; rfl; apply o_eql; rfl; rfl; rfl; refine Tri.nil (Tri.thenN ?_))
            (apply Tri.condD; (case hc => rfl); (all_goals intro h5))
            · have hN : n.toNat = runTo m o i + 1 := by omega
              have hfound : seek m o n m.p.toNat 0 = some (i + 1 - n.toNat) := by rw [hs, hf, seek, if_pos (by rw [hru]; omega)]
              (refine Tri.seq (Tri.region ?_); apply Tri.op; rfl; apply o_move; rfl; rfl; apply Tri.op; rfl; apply o_add64; rfl; rfl; rfl; (omega); apply Tri.op; rfl; apply o_move; rfl; rfl; apply Tri.op; rfl; apply o_sub64; rfl; rfl; rfl; (omega); apply Tri.op; rfl; apply o_assign; rfl; rfl; refine Tri.nil (Tri.thenN (Tri.seq (Tri.seq (Tri.region ?_)))); apply Tri.op; rfl; apply o_move; rfl; rfl; apply Tri.op; rfl; apply o_assign; rfl; rfl; refine Tri.nil (Tri.thenN (Tri.block ?_)))
              ((with_reducible apply Tri.seti 12 (((i + 1 - n.toNat : Nat) : Int))); (case h => rfl); (case hi => omega))
              ((with_reducible apply Tri.seti 11 (((i + 1 - n.toNat : Nat) : Int))); (case h => rfl); (case hi => omega))
              ((with_reducible apply Tri.eqA (A := blk bm _ _) (B := blk bm 149 (bmL ⟨m.p, setFrom m.u true (i + 1 - n.toNat) 0⟩))); (case p => (with_reducible repeat constructor)); (case e => rfl))
              (apply Tri.loop (α := { x : Nat // x ≤ n.toNat }) (m := fun x => n.toNat - x.1) (Lx := fun x => [(3, .pointer (some ⟨bm, 0, none⟩)), (6, .pointer (some ⟨br, 0, none⟩)), (10, .int .i64 (i : Int)), (11, .int .i64 ((i + 1 - n.toNat : Nat) : Int)), (12, .int .i64 ((i + 1 - n.toNat + x.1 : Nat) : Int))]) (Hx := fun x => [blk bm 149 (bmL ⟨m.p, setFrom m.u true (i + 1 - n.toNat) x.1⟩), blk br 149 ([.int .i64 0] ++ List.replicate 512 (.bool false)), Ex (hp w)]) (x0 := ⟨0, Nat.zero_le _⟩); (case hL => ((try dsimp only); (repeat (first | exact trivial | refine And.intro (by rfl) ?_)))); (case hH => ((try dsimp only); apply St.all; (repeat first | with_reducible constructor | constructor)))); (rintro ⟨x, hx⟩ mx hmx; (try dsimp only at hmx ⊢))
              (refine Tri.seq (Tri.seq (Tri.region ?_)); apply Tri.op; rfl; apply o_move; rfl; rfl; apply Tri.op; rfl; apply o_move; rfl; rfl; apply Tri.op; rfl; apply o_leq; rfl; rfl; rfl; refine Tri.nil (Tri.thenN ?_))
              have hlen : (setFrom m.u true (i + 1 - n.toNat) x).length = 512 := by rw [setFrom_length]; exact hm
              (apply Tri.condD; (case hc => rfl); (all_goals intro h6))
              · have hx' : x < n.toNat := by omega
                (refine Tri.skip (Tri.thenN (Tri.seq (Tri.block (Tri.region ?_)))); apply Tri.op; rfl; apply o_move; rfl; rfl; apply Tri.op; rfl; apply o_fieldAddr; rfl; rfl; apply Tri.op; rfl; apply o_ixArr; rfl; rfl; (first | rfl | exact (Int.toNat_of_nonneg (by omega)).symm); (first | omega | assumption); rfl; apply Tri.op; rfl)
                (apply o_store; (case hx => rfl); (case hy => rfl); (case h1 => rfl); (case p => (with_reducible repeat constructor)); (case hi => (rw [bmL_length _ hlen]; omega)))
                ((with_reducible apply Tri.eqA (A := blk bm _ _) (B := blk bm 149 (bmL ⟨m.p, setFrom m.u true (i + 1 - n.toNat) (x + 1)⟩))); (case p => (with_reducible repeat constructor)); (case e => (rw [off_set]; rfl)))
                (refine Tri.nil (Tri.blockN (Tri.thenN (Tri.region ?_))); apply Tri.op; rfl; apply o_move; rfl; rfl; apply Tri.op; rfl; apply o_add64; rfl; rfl; rfl; (omega); apply Tri.op; rfl; apply o_assign; rfl; rfl; refine Tri.nil (Tri.thenN ?_))
                (apply Tri.again (y := ⟨x + 1, by omega⟩); (case p => ((try dsimp only); (repeat (first | exact Pulls.nil | (apply Pulls.cons; (case a => (first | ((repeat (first | with_reducible exact Gv.Pull.head | with_reducible apply Gv.Pull.tail)); done) | (repeat (first | exact Gv.Pull.head | apply Gv.Pull.tail))))))))); (case hm => ((try dsimp only); omega)); (try dsimp only))
                (repeat (first | exact trivial | refine And.intro (by rfl) ?_))
              · have e : x = n.toNat := by omega
                subst e
                ((with_reducible refine Tri.exit (Tri.thenE (Tri.thenE (Tri.blockE (Tri.thenN (Tri.seq (Tri.region ?_))))))); apply Tri.op; rfl)
                (apply o_loadAll; (case hx => rfl); (case p => (with_reducible repeat constructor)); (case hl => exact bmL_length _ hlen); (case hn => rfl))
                (apply Tri.op; rfl; apply o_move; rfl; rfl; apply Tri.op; rfl)
                (apply o_storeAll; (case hx => rfl); (case hy => rfl); (case p => (with_reducible repeat constructor)); (case hl => exact bmL_length _ hlen); (case hc => exact z513); (case h1 => exact bmL_one _))
                (apply Tri.op; rfl; apply o_assign; rfl; rfl; apply Tri.op; rfl; apply o_assign; rfl; rfl; refine Tri.nil (Tri.thenN (Tri.ret (Tri.blockR (Tri.thenR (Tri.thenR (Tri.blockR (Tri.thenR ?_))))))))
                (apply Tri.fin; (case hr => rfl); (case h => exact ResL.cons ((Res1.agg rfl (by (with_reducible repeat constructor)) (by rw [List.drop_zero]; exact List.take_of_length_le (Nat.le_of_eq (bmL_length _ hlen))) (bmL_length _ hlen))) (ResL.cons (Res1.tmp rfl) (ResL.cons (Res1.tmp rfl) (ResL.nil)))); (apply fin_R (Hn := [])); (case p => exact (by (repeat first | with_reducible constructor | constructor))); exact ⟨by simp only [tupled]; (rw [ht, hfound]; rfl), rfl⟩)
            · (refine Tri.skip (Tri.blockN (Tri.thenN (Tri.region ?_))); apply Tri.op; rfl; apply o_add64; rfl; rfl; rfl; (omega); apply Tri.op; rfl; apply o_move; rfl; rfl; refine Tri.nil (Tri.thenN ?_))
              ((with_reducible apply Tri.seti 9 ((runTo m o (i + 1) : Int))); (case h => rfl); (case hi => (rw [hru]; rfl)))
              ((with_reducible apply Tri.again (y := ⟨i + 1, by omega, by rw [hs, hf, seek, if_neg (by rw [hru]; omega)]⟩)); (case p => ((try dsimp only); (repeat (first | exact Pulls.nil | (apply Pulls.cons; (case a => (first | ((repeat (first | with_reducible exact Gv.Pull.head | with_reducible apply Gv.Pull.tail)); done) | (repeat (first | exact Gv.Pull.head | apply Gv.Pull.tail))))))))); (case hm => ((try dsimp only); omega)); (try dsimp only))
              (repeat (first | exact trivial | refine And.intro (by rfl) ?_))
      · have e : i = m.p.toNat := by omega
        subst e
        have hnone : seek m o n m.p.toNat 0 = none := by rw [hs, Nat.sub_self]; rfl
        ((with_reducible refine Tri.exit (Tri.thenE (Tri.thenE (Tri.blockE (Tri.thenN (Tri.seq (Tri.region ?_))))))); apply Tri.op; rfl; apply o_build0; rfl; apply Tri.op; rfl)
        (apply o_storeAll; (case hx => rfl); (case hy => rfl); (case p => (with_reducible repeat constructor)); (case hl => exact z513); (case hc => exact z513); (case h1 => exact z_one))
        (apply Tri.op; rfl; apply o_assign; rfl; rfl; apply Tri.op; rfl; apply o_assign; rfl; rfl; refine Tri.nil (Tri.thenN (Tri.ret ?_)))
        (apply Tri.fin; (case hr => rfl); (case h => exact ResL.cons ((Res1.agg rfl (by (with_reducible repeat constructor)) (by rw [List.drop_zero]; exact List.take_of_length_le (Nat.le_of_eq z513)) z513)) (ResL.cons (Res1.tmp rfl) (ResL.cons (Res1.tmp rfl) (ResL.nil)))); (apply fin_R (Hn := [])); (case p => exact (by (repeat first | with_reducible constructor | constructor))); exact ⟨by simp only [tupled]; (rw [ht, hnone, bmV_zero]; rfl), rfl⟩)
end Go.Proofs.Ytckdlfbbkemklaa
end
section
/- node: parts of lists that are held flat, in plain terms. -/
namespace Go.Proofs.Ytckdlfbbkemklaa
open Go Go.RowKit Go.Gv
set_option linter.unusedVariables false
set_option linter.unusedSimpArgs false

theorem flat_drop {α : Type} {f : α → List Value} {m : Nat} (hf : ∀ x, (f x).length = m) : ∀ (l : List α) (i : Nat), (l.flatMap f).drop (i * m) = (l.drop i).flatMap f
  | [], i => by simp
  | x :: l, 0 => by simp
  | x :: l, i + 1 => by
    have h := hf x
    rw [List.flatMap_cons, List.drop_succ_cons, ← flat_drop hf l i, Nat.add_mul, Nat.one_mul, Nat.add_comm, ← List.drop_drop, List.drop_left' h]
theorem flat_take {α : Type} {f : α → List Value} {m : Nat} (hf : ∀ x, (f x).length = m) : ∀ (l : List α) (i : Nat), (l.flatMap f).take (i * m) = (l.take i).flatMap f
  | [], i => by simp
  | x :: l, 0 => by simp
  | x :: l, i + 1 => by
    have h := hf x
    rw [List.flatMap_cons, List.take_succ_cons, List.flatMap_cons, ← flat_take hf l i, Nat.add_mul, Nat.one_mul, Nat.add_comm, List.take_append, h, List.take_of_length_le (by omega)]
    congr 2; omega
theorem flat_cut {α : Type} {f : α → List Value} {m : Nat} (hf : ∀ x, (f x).length = m) (l : List α) (lo hi : Nat) : ((l.flatMap f).drop (lo * m)).take ((hi - lo) * m) = ((l.drop lo).take (hi - lo)).flatMap f := by
  rw [flat_drop hf, flat_take hf]
theorem flat_len {α : Type} {f : α → List Value} {m : Nat} (hf : ∀ x, (f x).length = m) : ∀ l : List α, (l.flatMap f).length = l.length * m
  | [] => by simp
  | x :: l => by rw [List.flatMap_cons, List.length_append, hf x, flat_len hf l, List.length_cons, Nat.add_mul, Nat.one_mul, Nat.add_comm]
theorem flat_one {α : Type} {f : α → List Value} (hf : ∀ x, ∀ y ∈ f x, y.oneCell' = true) (l : List α) : ∀ y ∈ l.flatMap f, y.oneCell' = true := by
  intro y hy
  obtain ⟨x, _, hx⟩ := List.mem_flatMap.1 hy
  exact hf x y hx
theorem entL_len5 (e : ENT) : (entL e).length = 8 := rfl
theorem keyL_len5 (k : KEY) : (keyL k).length = 2 := rfl
theorem entL_one5 (e : ENT) : ∀ y ∈ entL e, y.oneCell' = true := by
  intro y hy
  simp only [entL, List.mem_cons, List.not_mem_nil, or_false] at hy
  rcases hy with rfl | rfl | rfl | rfl | rfl | rfl | rfl | rfl <;> rfl
theorem keyL_one5 (k : KEY) : ∀ y ∈ keyL k, y.oneCell' = true := by
  intro y hy
  simp only [keyL, List.mem_cons, List.not_mem_nil, or_false] at hy
  rcases hy with rfl | rfl <;> rfl
theorem cutE {h : PH} {v : Value} {E : List ENT} {n : Nat} (hr : Rd h v n (EL E)) (lo hi : Nat) (h1 : lo ≤ hi) (h2 : hi ≤ n) : Rd h (subv v 8 lo hi) (hi - lo) (EL ((E.drop lo).take (hi - lo))) := by
  have q := hr.subv (size := 8) h1 h2
  rw [show ((EL E).drop (lo * 8)).take ((hi - lo) * 8) = EL ((E.drop lo).take (hi - lo)) from flat_cut entL_len5 E lo hi] at q
  exact q
theorem cutK {h : PH} {v : Value} {K : List KEY} {n : Nat} (hr : Rd h v n (KL K)) (lo hi : Nat) (h1 : lo ≤ hi) (h2 : hi ≤ n) : Rd h (subv v 2 lo hi) (hi - lo) (KL ((K.drop lo).take (hi - lo))) := by
  have q := hr.subv (size := 2) h1 h2
  rw [show ((KL K).drop (lo * 2)).take ((hi - lo) * 2) = KL ((K.drop lo).take (hi - lo)) from flat_cut keyL_len5 K lo hi] at q
  exact q
theorem cutD {h : PH} {v : Value} {D : List Int} {n : Nat} (hr : Rd h v n (NL D)) (lo hi : Nat) (h1 : lo ≤ hi) (h2 : hi ≤ n) : Rd h (subv v 1 lo hi) (hi - lo) (NL ((D.drop lo).take (hi - lo))) := by
  have q := hr.subv (size := 1) h1 h2
  rw [Nat.mul_one, Nat.mul_one, show ((NL D).drop lo).take (hi - lo) = NL ((D.drop lo).take (hi - lo)) by simp [NL, List.map_take, List.map_drop]] at q
  exact q
theorem NL_one5 (D : List Int) : ∀ y ∈ NL D, y.oneCell' = true := by
  intro y hy
  obtain ⟨x, _, rfl⟩ := List.mem_map.1 hy
  rfl
theorem NL_len (D : List Int) : (NL D).length = D.length := by simp [NL]
/-- a part of a node -/
def cutL {α : Type} (l : List α) (lo hi : Nat) : List α := (l.drop lo).take (hi - lo)
theorem cutL_len {α : Type} (l : List α) (lo hi : Nat) (h2 : hi ≤ l.length) : (cutL l lo hi).length = hi - lo := by
  unfold cutL
  rw [List.length_take, List.length_drop]; omega
end Go.Proofs.Ytckdlfbbkemklaa
end
section
/- node: between the program's and the reference's. -/
namespace Go.Proofs.Ytckdlfbbkemklaa
open Go Go.RowKit Go.Gv
set_option linter.unusedVariables false
set_option linter.unusedSimpArgs false

set_option maxHeartbeats 1000000 in
theorem law12_Entry (e : ENT) : SpecR Try.prog 47 #[entV e] (fun _ => True) (fun r H' => r = entV e ∧ H' = []) := by
  refine SpecR.of (fun w _ => ?_)
  refine Calls.enter Try.func47 rfl rfl rfl (St.rebase w) ?_
  simp only [argSlots]
  (refine Tri.seq (Tri.region ?_); apply Tri.op; rfl)
  (first | (apply o_boxA; (case hx => rfl); (case hn => rfl); intro b1) | (apply o_box1; (case hx => rfl); (case h1 => rfl); (case hn => rfl); intro b1))
  (apply Tri.op; rfl)
  (apply o_alloc; (case hn => rfl); intro b2)
  (refine Tri.nil (Tri.thenN (Tri.seq (Tri.region ?_))); apply Tri.op; rfl; apply o_fieldAddr; rfl; rfl; apply Tri.op; rfl; apply o_fieldAddr; rfl; rfl; apply Tri.op; rfl; apply o_load; rfl; (with_reducible repeat constructor); rfl; rfl; apply Tri.op; rfl; apply o_fieldAddr; rfl; rfl; apply Tri.op; rfl; apply o_fieldAddr; rfl; rfl; apply Tri.op; rfl; apply o_load; rfl; (with_reducible repeat constructor); rfl; rfl; apply Tri.op; rfl)
  (apply o_build (ys := keyL e.key); (case hp => (repeat first | exact pev.nil | (apply pev.cons; case a => rfl))); (case hf => rfl); (case hn => rfl))
  (apply Tri.op; rfl; apply o_fieldAddr; rfl; rfl; apply Tri.op; rfl; apply o_load; rfl; (with_reducible repeat constructor); rfl; rfl; apply Tri.op; rfl; apply o_fieldAddr; rfl; rfl; apply Tri.op; rfl; apply o_load; rfl; (with_reducible repeat constructor); rfl; rfl; apply Tri.op; rfl; apply o_fieldAddr; rfl; rfl; apply Tri.op; rfl; apply o_load; rfl; (with_reducible repeat constructor); rfl; rfl; apply Tri.op; rfl; apply o_fieldAddr; rfl; rfl; apply Tri.op; rfl; apply o_load; rfl; (with_reducible repeat constructor); rfl; rfl; apply Tri.op; rfl; apply o_fieldAddr; rfl; rfl; apply Tri.op; rfl; apply o_load; rfl; (with_reducible repeat constructor); rfl; rfl; apply Tri.op; rfl; apply o_fieldAddr; rfl; rfl; apply Tri.op; rfl; apply o_load; rfl; (with_reducible repeat constructor); rfl; rfl; apply Tri.op; rfl)
  (apply o_build (ys := entL e); (case hp => (repeat first | exact pev.nil | (apply pev.cons; case a => rfl))); (case hf => rfl); (case hn => rfl))
  (apply Tri.op; rfl)
  (apply o_storeAll (ys := entL e); (case hx => rfl); (case hy => rfl); (case p => (with_reducible repeat constructor)); (case hl => rfl); (case hc => rfl); (case h1 => exact entL_one _))
  (refine Tri.nil (Tri.thenN (Tri.ret ?_)))
  (apply Tri.fin; (case hr => rfl); (case h => exact ResL.cons ((Res1.agg rfl (by (with_reducible repeat constructor)) (by rw [List.drop_zero]; exact List.take_of_length_le (Nat.le_of_eq (entL_len e))) (entL_len e))) (ResL.nil)); (apply fin_R (Hn := [])); (case p => exact (by (repeat first | with_reducible constructor | constructor))); exact ⟨rfl, rfl⟩)
end Go.Proofs.Ytckdlfbbkemklaa
end
section
/- slices: Clone, for the elements of a node (printed by mkslices.py). -/
namespace Go.Proofs.Ytckdlfbbkemklaa
open Go Go.RowKit Go.Gv
set_option linter.unusedVariables false
set_option linter.unusedSimpArgs false

theorem slices_Cloneint (v : Value) (n : Nat) (xs : List Value) (hl : xs.length = n * 1) (h1 : ∀ y ∈ xs, y.oneCell' = true) (hb : n ≤ 5000000) : SpecR Try.prog 81 #[v] (fun w => RdW w v n xs) (fun r H' => H' = [own 3 1 r n xs]) := by
  refine SpecR.of (fun w hr => ?_)
  refine Calls.enter Try.func81 rfl rfl rfl (St.rebase w) ?_
  simp only [argSlots]
  (refine Tri.seq (Tri.region ?_); apply Tri.op; rfl; apply o_assign; rfl; rfl; refine Tri.nil (Tri.thenN (Tri.seq (Tri.seq (Tri.region ?_)))); apply Tri.op; rfl; apply o_move; rfl; rfl; apply Tri.op; rfl)
  (apply o_eqlSN; (case hx => rfl); (case hy => rfl); (case hr => exact rdw_ex (by (with_reducible repeat constructor)) hr); (case hn => rfl))
  intro b hbl
  cases b
  · (refine Tri.nil (Tri.thenN ?_); apply Tri.condF; rfl; rfl; refine Tri.skip (Tri.thenN (Tri.seq (Tri.region ?_))); apply Tri.op; rfl)
    (apply o_litSl (ys := []); (case hp => (repeat first | exact pev.nil | (apply pev.cons; case a => rfl))); (case hm => rfl); (case hf => rfl); (case hn => rfl); intro vr)
    (apply Tri.op; rfl; apply o_move; rfl; rfl; apply Tri.op; rfl)
    (apply o_append; (case hx => rfl); (case hy => rfl); (case p => (with_reducible repeat constructor)); (case hr => exact rdw_ex (by (with_reducible repeat constructor)) hr); (case hl => exact hl); (case h1 => exact h1); (case hb => omega); (case hn => rfl))
    intro v'
    (apply Tri.op; rfl; apply o_assign; rfl; rfl; refine Tri.nil (Tri.thenN (Tri.ret ?_)))
    ((with_reducible apply Tri.eqA (A := own 3 1 v' _ _) (B := own 3 1 v' n xs)); (case p => (with_reducible repeat constructor)); (case e => (rw [Nat.zero_add, List.nil_append])))
    (apply Tri.fin; (case hr => rfl); (case h => (repeat (first | exact ResL.nil | (apply ResL.cons; (case a => (first | exact Res1.tmp rfl | (apply Res1.cell; rfl; (with_reducible repeat constructor); rfl) | (apply Res1.agg; rfl; (with_reducible repeat constructor); rfl; rfl))))))); (apply fin_R (Hn := [own 3 1 v' n xs])); (case p => (repeat first | with_reducible constructor | constructor)))
    simp only [tupled]
  · have hx : xs = [] := hbl rfl
    subst hx
    obtain rfl : n = 0 := by simp at hl; omega
    (refine Tri.nil (Tri.thenN ?_); apply Tri.condT; rfl; rfl; refine Tri.seq (Tri.region ?_); apply Tri.op; rfl; apply o_assign; rfl; rfl; refine Tri.nil (Tri.thenN (Tri.ret (Tri.thenR ?_))))
    (with_reducible apply Tri.ownNil 3 1)
    (apply Tri.fin; (case hr => rfl); (case h => (repeat (first | exact ResL.nil | (apply ResL.cons; (case a => (first | exact Res1.tmp rfl | (apply Res1.cell; rfl; (with_reducible repeat constructor); rfl) | (apply Res1.agg; rfl; (with_reducible repeat constructor); rfl; rfl))))))); (apply fin_R (Hn := [own 3 1 (.slice none 0 0) 0 []])); (case p => (repeat first | with_reducible constructor | constructor)))
    rfl

theorem slices_CloneKey (v : Value) (n : Nat) (xs : List Value) (hl : xs.length = n * 2) (h1 : ∀ y ∈ xs, y.oneCell' = true) (hb : n ≤ 5000000) : SpecR Try.prog 80 #[v] (fun w => RdW w v n xs) (fun r H' => H' = [own 98 2 r n xs]) := by
  refine SpecR.of (fun w hr => ?_)
  refine Calls.enter Try.func80 rfl rfl rfl (St.rebase w) ?_
  simp only [argSlots]
  (refine Tri.seq (Tri.region ?_); apply Tri.op; rfl; apply o_assign; rfl; rfl; refine Tri.nil (Tri.thenN (Tri.seq (Tri.seq (Tri.region ?_)))); apply Tri.op; rfl; apply o_move; rfl; rfl; apply Tri.op; rfl)
  (apply o_eqlSN; (case hx => rfl); (case hy => rfl); (case hr => exact rdw_ex (by (with_reducible repeat constructor)) hr); (case hn => rfl))
  intro b hbl
  cases b
  · (refine Tri.nil (Tri.thenN ?_); apply Tri.condF; rfl; rfl; refine Tri.skip (Tri.thenN (Tri.seq (Tri.region ?_))); apply Tri.op; rfl)
    (apply o_litSl (ys := []); (case hp => (repeat first | exact pev.nil | (apply pev.cons; case a => rfl))); (case hm => rfl); (case hf => rfl); (case hn => rfl); intro vr)
    (apply Tri.op; rfl; apply o_move; rfl; rfl; apply Tri.op; rfl)
    (apply o_append; (case hx => rfl); (case hy => rfl); (case p => (with_reducible repeat constructor)); (case hr => exact rdw_ex (by (with_reducible repeat constructor)) hr); (case hl => exact hl); (case h1 => exact h1); (case hb => omega); (case hn => rfl))
    intro v'
    (apply Tri.op; rfl; apply o_assign; rfl; rfl; refine Tri.nil (Tri.thenN (Tri.ret ?_)))
    ((with_reducible apply Tri.eqA (A := own 98 2 v' _ _) (B := own 98 2 v' n xs)); (case p => (with_reducible repeat constructor)); (case e => (rw [Nat.zero_add, List.nil_append])))
    (apply Tri.fin; (case hr => rfl); (case h => (repeat (first | exact ResL.nil | (apply ResL.cons; (case a => (first | exact Res1.tmp rfl | (apply Res1.cell; rfl; (with_reducible repeat constructor); rfl) | (apply Res1.agg; rfl; (with_reducible repeat constructor); rfl; rfl))))))); (apply fin_R (Hn := [own 98 2 v' n xs])); (case p => (repeat first | with_reducible constructor | constructor)))
    simp only [tupled]
  · have hx : xs = [] := hbl rfl
    subst hx
    obtain rfl : n = 0 := by simp at hl; omega
    (refine Tri.nil (Tri.thenN ?_); apply Tri.condT; rfl; rfl; refine Tri.seq (Tri.region ?_); apply Tri.op; rfl; apply o_assign; rfl; rfl; refine Tri.nil (Tri.thenN (Tri.ret (Tri.thenR ?_))))
    (with_reducible apply Tri.ownNil 98 2)
    (apply Tri.fin; (case hr => rfl); (case h => (repeat (first | exact ResL.nil | (apply ResL.cons; (case a => (first | exact Res1.tmp rfl | (apply Res1.cell; rfl; (with_reducible repeat constructor); rfl) | (apply Res1.agg; rfl; (with_reducible repeat constructor); rfl; rfl))))))); (apply fin_R (Hn := [own 98 2 (.slice none 0 0) 0 []])); (case p => (repeat first | with_reducible constructor | constructor)))
    rfl

theorem slices_CloneEntry (v : Value) (n : Nat) (xs : List Value) (hl : xs.length = n * 8) (h1 : ∀ y ∈ xs, y.oneCell' = true) (hb : n ≤ 5000000) : SpecR Try.prog 79 #[v] (fun w => RdW w v n xs) (fun r H' => H' = [own 100 8 r n xs]) := by
  refine SpecR.of (fun w hr => ?_)
  refine Calls.enter Try.func79 rfl rfl rfl (St.rebase w) ?_
  simp only [argSlots]
  (refine Tri.seq (Tri.region ?_); apply Tri.op; rfl; apply o_assign; rfl; rfl; refine Tri.nil (Tri.thenN (Tri.seq (Tri.seq (Tri.region ?_)))); apply Tri.op; rfl; apply o_move; rfl; rfl; apply Tri.op; rfl)
  (apply o_eqlSN; (case hx => rfl); (case hy => rfl); (case hr => exact rdw_ex (by (with_reducible repeat constructor)) hr); (case hn => rfl))
  intro b hbl
  cases b
  · (refine Tri.nil (Tri.thenN ?_); apply Tri.condF; rfl; rfl; refine Tri.skip (Tri.thenN (Tri.seq (Tri.region ?_))); apply Tri.op; rfl)
    (apply o_litSl (ys := []); (case hp => (repeat first | exact pev.nil | (apply pev.cons; case a => rfl))); (case hm => rfl); (case hf => rfl); (case hn => rfl); intro vr)
    (apply Tri.op; rfl; apply o_move; rfl; rfl; apply Tri.op; rfl)
    (apply o_append; (case hx => rfl); (case hy => rfl); (case p => (with_reducible repeat constructor)); (case hr => exact rdw_ex (by (with_reducible repeat constructor)) hr); (case hl => exact hl); (case h1 => exact h1); (case hb => omega); (case hn => rfl))
    intro v'
    (apply Tri.op; rfl; apply o_assign; rfl; rfl; refine Tri.nil (Tri.thenN (Tri.ret ?_)))
    ((with_reducible apply Tri.eqA (A := own 100 8 v' _ _) (B := own 100 8 v' n xs)); (case p => (with_reducible repeat constructor)); (case e => (rw [Nat.zero_add, List.nil_append])))
    (apply Tri.fin; (case hr => rfl); (case h => (repeat (first | exact ResL.nil | (apply ResL.cons; (case a => (first | exact Res1.tmp rfl | (apply Res1.cell; rfl; (with_reducible repeat constructor); rfl) | (apply Res1.agg; rfl; (with_reducible repeat constructor); rfl; rfl))))))); (apply fin_R (Hn := [own 100 8 v' n xs])); (case p => (repeat first | with_reducible constructor | constructor)))
    simp only [tupled]
  · have hx : xs = [] := hbl rfl
    subst hx
    obtain rfl : n = 0 := by simp at hl; omega
    (refine Tri.nil (Tri.thenN ?_); apply Tri.condT; rfl; rfl; refine Tri.seq (Tri.region ?_); apply Tri.op; rfl; apply o_assign; rfl; rfl; refine Tri.nil (Tri.thenN (Tri.ret (Tri.thenR ?_))))
    (with_reducible apply Tri.ownNil 100 8)
    (apply Tri.fin; (case hr => rfl); (case h => (repeat (first | exact ResL.nil | (apply ResL.cons; (case a => (first | exact Res1.tmp rfl | (apply Res1.cell; rfl; (with_reducible repeat constructor); rfl) | (apply Res1.agg; rfl; (with_reducible repeat constructor); rfl; rfl))))))); (apply fin_R (Hn := [own 100 8 (.slice none 0 0) 0 []])); (case p => (repeat first | with_reducible constructor | constructor)))
    rfl

end Go.Proofs.Ytckdlfbbkemklaa
end
section
/- An owned row, cut to its first few: it is owned still. -/
namespace Go.Gv
open Go Go.RowKit
set_option linter.unusedVariables false
set_option linter.unusedSimpArgs false
theorem own_cut {e : TypeId} {size n k : Nat} {v : Value} {xs : List Value} {h : PH} (ho : own e size v n xs h) (hk : k ≤ n) : own e size (subv v size 0 k) k (xs.take (k * size)) h := by
  refine ⟨?_, ?_⟩
  · have := ho.1
    have h2 : k * size ≤ n * size := Nat.mul_le_mul_right size hk
    rw [List.length_take]; omega
  · rcases ho.2 with ⟨h1, h0⟩ | ⟨g, cap, cur, h1, h2, h3, h4, h5, h6⟩
    · subst h1
      obtain rfl : k = 0 := by omega
      exact .inl ⟨rfl, rfl⟩
    · subst h1
      refine .inr ⟨g, cap, cur, ?_, h2, by omega, h4, h5, ?_⟩
      · unfold subv
        simp only [Nat.zero_mul, Nat.sub_zero, Option.map_some, Addr.add_lit, Nat.add_zero, ite_self]
      · have h7 : k * size ≤ n * size := Nat.mul_le_mul_right size hk
        rw [← h6, List.take_take, Nat.min_eq_left h7]
section
variable {P : Program} {w0 : World} {n : NT} {L : Slots} {H H' : List Atom}
theorem Tri.ownCut {G : Act → World → Prop} {e : TypeId} {size m : Nat} {v : Value} {xs : List Value} (j : Nat) (p : Pull H (own e size v m xs) H') (hj : j ≤ m)
    (k : Tri w0 G n L (own e size (subv v size 0 j) j (xs.take (j * size)) :: H')) : Tri w0 G n L H := fun a w ha hw => by
  obtain ⟨he, s, h1, h2, h3⟩ := hw.pull p
  exact k a w ha ⟨he, s, h1, own_cut h2 hj, h3⟩
end
section
variable {P : Program} {w0 : World} {n : NT} {L : Slots} {H H' : List Atom} {Q : Exit → Act → World → Prop} {K : Act → World → Prop} {d : Nat}
variable {ty : TypeId} {pos : String} {aft : Array Edge} {g : Option (Nat × Bool)}
end
end Go.Gv
end
section
/- slices: Concat of two, for the elements of a node (printed by mkslices.py). -/
namespace Go.Proofs.Ytckdlfbbkemklaa
open Go Go.RowKit Go.Gv
set_option linter.unusedVariables false
set_option linter.unusedSimpArgs false
def s3 (a b : Nat) : Nat → Nat
  | 0 => 0
  | 1 => a
  | _ => a + b
def x3 {α : Type} (a b : List α) : Nat → List α
  | 0 => []
  | 1 => a
  | _ => a ++ b
end Go.Proofs.Ytckdlfbbkemklaa
end
section
/- node: part, Join. -/
namespace Go.Proofs.Ytckdlfbbkemklaa
open Go Go.RowKit Go.Gv
set_option linter.unusedVariables false
set_option linter.unusedSimpArgs false

/-- what a node owns -/
def ownN (u1 u2 u3 : Value) (E : List ENT) (K : List KEY) (D : List Int) : List Atom := [own 100 8 u1 E.length (EL E), own 98 2 u2 K.length (KL K), own 3 1 u3 D.length (NL D)]
theorem EL_ones (E : List ENT) : ∀ y ∈ EL E, y.oneCell' = true := flat_one entL_one5 E
theorem KL_ones (K : List KEY) : ∀ y ∈ KL K, y.oneCell' = true := flat_one keyL_one5 K
theorem EL_lens (E : List ENT) {n : Nat} (h : E.length = n) : (EL E).length = n * 8 := by rw [← h]; exact flat_len entL_len5 E
theorem KL_lens (K : List KEY) {n : Nat} (h : K.length = n) : (KL K).length = n * 2 := by rw [← h]; exact flat_len keyL_len5 K
theorem NL_lens (D : List Int) {n : Nat} (h : D.length = n) : (NL D).length = n * 1 := by rw [NL_len, h, Nat.mul_one]
set_option maxHeartbeats 4000000 in
theorem node_part_leaf (ev kv dv : Value) (E : List ENT) (K : List KEY) (D : List Int) (lo hi : Nat) (h1 : lo ≤ hi) (h2 : hi ≤ E.length) (hb : hi ≤ 5000000) : SpecR Try.prog 49 #[ndW true ev kv dv, .int .i64 (lo : Int), .int .i64 (hi : Int)] (fun w => ndR w ev kv dv E K D) (fun r H' => ∃ u1 u2 u3, r = ndW true u1 u2 u3 ∧ H' = ownN u1 u2 u3 (cutL E lo hi) [] []) := by
  refine SpecR.of (fun w hr => ?_)
  obtain ⟨hrE, hrK, hrD⟩ := hr
  have q1 := cutE hrE lo hi h1 h2
  have hcl := cutL_len E lo hi h2
  have hx1 := EL_lens (cutL E lo hi) hcl
  refine Calls.enter Try.func49 rfl rfl rfl (St.rebase w) ?_
  simp only [argSlots]
  (refine Tri.seq (Tri.region ?_); apply Tri.op; rfl)
  (first | (apply o_boxA; (case hx => rfl); (case hn => rfl); intro b3) | (apply o_box1; (case hx => rfl); (case h1 => rfl); (case hn => rfl); intro b3))
  (apply Tri.op; rfl)
  (apply o_alloc; (case hn => rfl); intro b6)
  (refine Tri.nil (Tri.thenN (Tri.seq (Tri.seq (Tri.region ?_)))); apply Tri.op; rfl; apply o_fieldAddr; rfl; rfl; apply Tri.op; rfl; apply o_load; rfl; (with_reducible repeat constructor); rfl; rfl; refine Tri.nil (Tri.thenN ?_); apply Tri.condT; rfl; rfl; refine Tri.seq (Tri.region ?_); apply Tri.op; rfl; apply o_fieldAddr; rfl; rfl; apply Tri.op; rfl; apply o_load; rfl; (with_reducible repeat constructor); rfl; rfl; apply Tri.op; rfl; apply o_move; rfl; rfl; apply Tri.op; rfl; apply o_move; rfl; rfl; apply Tri.op; rfl)
  (apply o_slice (lo := lo) (hi := hi); (case hx => rfl); (case hr => exact rdw_ex (by (with_reducible repeat constructor)) hrE); (case hol => first | exact fun _ _ => rfl | exact fun a ha => congrArg some (ha.eval rfl)); (case hoh => first | exact fun _ _ => rfl | exact fun a ha => congrArg some (ha.eval rfl)); (case hlo => first | exact .inr ⟨rfl, rfl⟩ | exact .inl ⟨_, rfl⟩ | exact .inl ⟨_, (by congr 2; omega)⟩); (case hhi => first | exact .inr ⟨rfl, rfl⟩ | exact .inl ⟨_, rfl⟩ | exact .inl ⟨_, (by congr 2; omega)⟩); (case hlh => omega); (case hhm => omega); (case hn => rfl))
  (apply Tri.op; rfl)
  (apply o_callR (hs := slices_CloneEntry (subv ev 8 lo hi) (hi - lo) (EL (cutL E lo hi)) hx1 (EL_ones _) (by omega)); (case hargs => (repeat first | exact evs.nil | (apply evs.cons; case a => rfl))); (case hpre => exact rdw_ex (by (with_reducible repeat constructor)) q1); (case hn => rfl))
  rintro u1 H1 rfl
  (try dsimp only [List.cons_append, List.nil_append])
  (apply Tri.op; rfl)
  refine Tri.shape (e := 100) (size := 8) (v := u1) (by (with_reducible repeat constructor)) ?_
  rintro ⟨A1, c1, rfl⟩
  (apply o_build (ys := ndLL true (.slice A1 (hi - lo) c1) (.slice none 0 0) (.slice none 0 0)); (case hp => (repeat first | exact pev.nil | (apply pev.cons; case a => rfl))); (case hf => rfl); (case hn => rfl))
  (apply Tri.op; rfl)
  (apply o_storeAll (ys := ndLL true (.slice A1 (hi - lo) c1) (.slice none 0 0) (.slice none 0 0)); (case hx => rfl); (case hy => rfl); (case p => (with_reducible repeat constructor)); (case hl => rfl); (case hc => rfl); (case h1 => exact ndLL_one true A1 none none _ c1 0 0 0 0))
  (refine Tri.nil (Tri.thenN (Tri.ret (Tri.thenR ?_))))
  (with_reducible apply Tri.ownNil 98 2)
  (with_reducible apply Tri.ownNil 3 1)
  ((with_reducible apply Tri.eqA (A := own 100 8 (.slice A1 (hi - lo) c1) _ _) (B := own 100 8 (.slice A1 (hi - lo) c1) (cutL E lo hi).length (EL (cutL E lo hi)))); (case p => (with_reducible repeat constructor)); (case e => (rw [hcl])))
  (apply Tri.fin; (case hr => rfl); (case h => exact ResL.cons ((Res1.agg rfl (by (with_reducible repeat constructor)) (by rw [List.drop_zero]; exact List.take_of_length_le (Nat.le_of_eq (rfl : (ndLL true (.slice A1 (hi - lo) c1) (.slice none 0 0) (.slice none 0 0)).length = 4))) (rfl : (ndLL true (.slice A1 (hi - lo) c1) (.slice none 0 0) (.slice none 0 0)).length = 4))) (ResL.nil)); (apply fin_R (Hn := [own 100 8 (.slice A1 (hi - lo) c1) (cutL E lo hi).length (EL (cutL E lo hi)), own 98 2 (.slice none 0 0) 0 [], own 3 1 (.slice none 0 0) 0 []])); (case p => exact (by (repeat first | with_reducible constructor | constructor))); exact ⟨_, _, _, rfl, rfl⟩)
set_option maxHeartbeats 4000000 in
theorem node_part_inner (ev kv dv : Value) (E : List ENT) (K : List KEY) (D : List Int) (lo hi : Nat) (h1 : lo ≤ hi) (h2 : hi ≤ D.length) (hk : K.length = D.length) (hb : hi ≤ 5000000) : SpecR Try.prog 49 #[ndW false ev kv dv, .int .i64 (lo : Int), .int .i64 (hi : Int)] (fun w => ndR w ev kv dv E K D) (fun r H' => ∃ u1 u2 u3, r = ndW false u1 u2 u3 ∧ H' = ownN u1 u2 u3 [] (cutL K lo hi) (cutL D lo hi)) := by
  refine SpecR.of (fun w hr => ?_)
  obtain ⟨hrE, hrK, hrD⟩ := hr
  have h3 : hi ≤ K.length := by omega
  have q1 := cutK hrK lo hi h1 h3
  have q2 := cutD hrD lo hi h1 h2
  have hcl := cutL_len K lo hi h3
  have hcl2 := cutL_len D lo hi h2
  have hx1 := KL_lens (cutL K lo hi) hcl
  have hx2 := NL_lens (cutL D lo hi) hcl2
  refine Calls.enter Try.func49 rfl rfl rfl (St.rebase w) ?_
  simp only [argSlots]
  (refine Tri.seq (Tri.region ?_); apply Tri.op; rfl)
  (first | (apply o_boxA; (case hx => rfl); (case hn => rfl); intro b3) | (apply o_box1; (case hx => rfl); (case h1 => rfl); (case hn => rfl); intro b3))
  (apply Tri.op; rfl)
  (apply o_alloc; (case hn => rfl); intro b6)
  (refine Tri.nil (Tri.thenN (Tri.seq (Tri.seq (Tri.region ?_)))); apply Tri.op; rfl; apply o_fieldAddr; rfl; rfl; apply Tri.op; rfl; apply o_load; rfl; (with_reducible repeat constructor); rfl; rfl; refine Tri.nil (Tri.thenN ?_); apply Tri.condF; rfl; rfl; refine Tri.skip (Tri.thenN (Tri.seq ?_)))
  ((first | with_reducible apply Tri.mix [blk b3 33 (ndLL false ev kv dv), Ex (hp w)] | (apply TriR.mix [blk b3 33 (ndLL false ev kv dv), Ex (hp w)]; (case hnd => rfl))); (case p => (repeat first | with_reducible constructor | constructor)); (dsimp only [List.length]))
  ((first | (apply TriM.q 0; rfl; rfl) | (apply TriM.qYes 0; rfl; rfl; rfl; with_reducible rfl)); kernel_rfl; rfl; rfl; (intro F K hK; apply o_fieldAddr; rfl; rfl; exact hK); (first | (apply TriM.q 1; rfl; rfl) | (apply TriM.qYes 1; rfl; rfl; rfl; with_reducible rfl)); kernel_rfl; rfl; rfl; (intro F K hK; (try dsimp only [List.cons_append, List.nil_append]); apply o_load; rfl; (with_reducible repeat constructor); rfl; rfl; exact hK); (first | (apply TriM.q 2; rfl; rfl) | (apply TriM.qYes 2; rfl; rfl; rfl; with_reducible rfl)); kernel_rfl; rfl; rfl; (intro F K hK; apply o_move; rfl; rfl; exact hK); (first | (apply TriM.q 3; rfl; rfl) | (apply TriM.qYes 3; rfl; rfl; rfl; with_reducible rfl)); kernel_rfl; rfl; rfl; (intro F K hK; apply o_move; rfl; rfl; exact hK))
  ((first | (apply TriM.q 4; (case ho => rfl); (case hg => rfl)) | (apply TriM.qYes 4; (case ho => rfl); (case hg => rfl); (case hyl => rfl); (case hb => with_reducible rfl))); (case hB => kernel_rfl); (case hd => rfl); (case hn => rfl); (case h => (intro F K hK; (try dsimp only [List.cons_append, List.nil_append]); (apply o_slice (lo := lo) (hi := hi); (case hx => rfl); (case hr => exact rdw_ex (by (with_reducible repeat constructor)) hrK); (case hol => first | exact fun _ _ => rfl | exact fun a ha => congrArg some (ha.eval rfl)); (case hoh => first | exact fun _ _ => rfl | exact fun a ha => congrArg some (ha.eval rfl)); (case hlo => first | exact .inr ⟨rfl, rfl⟩ | exact .inl ⟨_, rfl⟩ | exact .inl ⟨_, (by congr 2; omega)⟩); (case hhi => first | exact .inr ⟨rfl, rfl⟩ | exact .inl ⟨_, rfl⟩ | exact .inl ⟨_, (by congr 2; omega)⟩); (case hlh => omega); (case hhm => omega); (case hn => rfl)); exact hK)))
  ((first | (apply TriM.q 6; rfl; rfl) | (apply TriM.qYes 6; rfl; rfl; rfl; with_reducible rfl)); kernel_rfl; rfl; rfl; (intro F K hK; apply o_fieldAddr; rfl; rfl; exact hK); (first | (apply TriM.q 7; rfl; rfl) | (apply TriM.qYes 7; rfl; rfl; rfl; with_reducible rfl)); kernel_rfl; rfl; rfl; (intro F K hK; (try dsimp only [List.cons_append, List.nil_append]); apply o_load; rfl; (with_reducible repeat constructor); rfl; rfl; exact hK); (first | (apply TriM.q 8; rfl; rfl) | (apply TriM.qYes 8; rfl; rfl; rfl; with_reducible rfl)); kernel_rfl; rfl; rfl; (intro F K hK; apply o_move; rfl; rfl; exact hK); (first | (apply TriM.q 9; rfl; rfl) | (apply TriM.qYes 9; rfl; rfl; rfl; with_reducible rfl)); kernel_rfl; rfl; rfl; (intro F K hK; apply o_move; rfl; rfl; exact hK))
  ((first | (apply TriM.q 10; (case ho => rfl); (case hg => rfl)) | (apply TriM.qYes 10; (case ho => rfl); (case hg => rfl); (case hyl => rfl); (case hb => with_reducible rfl))); (case hB => kernel_rfl); (case hd => rfl); (case hn => rfl); (case h => (intro F K hK; (try dsimp only [List.cons_append, List.nil_append]); (apply o_slice (lo := lo) (hi := hi); (case hx => rfl); (case hr => exact rdw_ex (by (with_reducible repeat constructor)) hrD); (case hol => first | exact fun _ _ => rfl | exact fun a ha => congrArg some (ha.eval rfl)); (case hoh => first | exact fun _ _ => rfl | exact fun a ha => congrArg some (ha.eval rfl)); (case hlo => first | exact .inr ⟨rfl, rfl⟩ | exact .inl ⟨_, rfl⟩ | exact .inl ⟨_, (by congr 2; omega)⟩); (case hhi => first | exact .inr ⟨rfl, rfl⟩ | exact .inl ⟨_, rfl⟩ | exact .inl ⟨_, (by congr 2; omega)⟩); (case hlh => omega); (case hhm => omega); (case hn => rfl)); exact hK)))
  (apply TriM.a 5; (case ho => rfl); (case hg => rfl); (case hr => kernel_rfl); (try dsimp only [List.cons_append, List.nil_append]))
  (apply o_callR (hs := slices_CloneKey (subv kv 2 lo hi) (hi - lo) (KL (cutL K lo hi)) hx1 (KL_ones _) (by omega)); (case hargs => (repeat first | exact evs.nil | (apply evs.cons; case a => rfl))); (case hpre => exact rdw_ex (by (with_reducible repeat constructor)) q1); (case hn => rfl))
  rintro u1 H1 rfl
  (try dsimp only [List.cons_append, List.nil_append])
  refine Tri.shape (e := 98) (size := 2) (v := u1) (by (with_reducible repeat constructor)) ?_
  rintro ⟨A1, c1, rfl⟩
  (apply TriM.back; (case p => (repeat first | with_reducible constructor | constructor)))
  (apply TriM.a 11; (case ho => rfl); (case hg => rfl); (case hr => kernel_rfl); (try dsimp only [List.cons_append, List.nil_append]))
  (apply o_callR (hs := slices_Cloneint (subv dv 1 lo hi) (hi - lo) (NL (cutL D lo hi)) hx2 (NL_one5 _) (by omega)); (case hargs => (repeat first | exact evs.nil | (apply evs.cons; case a => rfl))); (case hpre => exact rdw_ex (by (with_reducible repeat constructor)) q2); (case hn => rfl))
  rintro u2 H2 rfl
  (try dsimp only [List.cons_append, List.nil_append])
  refine Tri.shape (e := 3) (size := 1) (v := u2) (by (with_reducible repeat constructor)) ?_
  rintro ⟨A2, c2, rfl⟩
  (apply TriM.back; (case p => (repeat first | with_reducible constructor | constructor)))
  ((first | (apply TriM.q 12; (case ho => rfl); (case hg => rfl)) | (apply TriM.qYes 12; (case ho => rfl); (case hg => rfl); (case hyl => rfl); (case hb => with_reducible rfl))); (case hB => kernel_rfl); (case hd => rfl); (case hn => rfl); (case h => (intro F K hK; (try dsimp only [List.cons_append, List.nil_append]); (apply o_build (ys := ndLL false (.slice none 0 0) (.slice A1 (hi - lo) c1) (.slice A2 (hi - lo) c2)); (case hp => (repeat first | exact pev.nil | (apply pev.cons; case a => rfl))); (case hf => rfl); (case hn => rfl)); exact hK)))
  (apply TriM.a 13; (case ho => rfl); (case hg => rfl); (case hr => kernel_rfl); (try dsimp only [List.cons_append, List.nil_append]))
  (apply o_storeAll (ys := ndLL false (.slice none 0 0) (.slice A1 (hi - lo) c1) (.slice A2 (hi - lo) c2)); (case hx => rfl); (case hy => rfl); (case p => (with_reducible repeat constructor)); (case hl => rfl); (case hc => rfl); (case h1 => exact ndLL_one false none A1 A2 0 0 _ c1 _ c2))
  (apply TriM.back; (case p => (repeat first | with_reducible constructor | constructor)))
  (apply TriM.nil; (case hr => kernel_rfl); (try dsimp only [List.cons_append, List.nil_append]))
  (refine Tri.thenN (Tri.ret ?_))
  (with_reducible apply Tri.ownNil 100 8)
  ((with_reducible apply Tri.eqA (A := own 98 2 (.slice A1 (hi - lo) c1) _ _) (B := own 98 2 (.slice A1 (hi - lo) c1) (cutL K lo hi).length (KL (cutL K lo hi)))); (case p => (with_reducible repeat constructor)); (case e => (rw [hcl])))
  ((with_reducible apply Tri.eqA (A := own 3 1 (.slice A2 (hi - lo) c2) _ _) (B := own 3 1 (.slice A2 (hi - lo) c2) (cutL D lo hi).length (NL (cutL D lo hi)))); (case p => (with_reducible repeat constructor)); (case e => (rw [hcl2])))
  (apply Tri.fin; (case hr => rfl); (case h => exact ResL.cons ((Res1.agg rfl (by (with_reducible repeat constructor)) (by rw [List.drop_zero]; exact List.take_of_length_le (Nat.le_of_eq (rfl : (ndLL false (.slice none 0 0) (.slice A1 (hi - lo) c1) (.slice A2 (hi - lo) c2)).length = 4))) (rfl : (ndLL false (.slice none 0 0) (.slice A1 (hi - lo) c1) (.slice A2 (hi - lo) c2)).length = 4))) (ResL.nil)); (apply fin_R (Hn := [own 100 8 (.slice none 0 0) 0 [], own 98 2 (.slice A1 (hi - lo) c1) (cutL K lo hi).length (KL (cutL K lo hi)), own 3 1 (.slice A2 (hi - lo) c2) (cutL D lo hi).length (NL (cutL D lo hi))])); (case p => exact (by (repeat first | with_reducible constructor | constructor))); exact ⟨_, _, _, rfl, rfl⟩)
theorem EL_app (a b : List ENT) : EL (a ++ b) = EL a ++ EL b := by simp [EL]
theorem KL_app (a b : List KEY) : KL (a ++ b) = KL a ++ KL b := by simp [KL]
theorem NL_app (a b : List Int) : NL (a ++ b) = NL a ++ NL b := by simp [NL]
end Go.Proofs.Ytckdlfbbkemklaa
end
section
/- node: a node that is split, in plain terms. -/
namespace Go.Proofs.Ytckdlfbbkemklaa
open Go Go.RowKit Go.Gv
set_option linter.unusedVariables false
set_option linter.unusedSimpArgs false

structure ND3 where
  E : List ENT
  K : List KEY
  D : List Int
/-- leaf or inner: how many -/
def szN (leaf : Bool) (x : ND3) : Nat := if leaf then x.E.length else x.D.length
def okN (leaf : Bool) (x : ND3) : Prop := if leaf then x.K = [] ∧ x.D = [] else x.E = [] ∧ x.K.length = x.D.length
def partN (leaf : Bool) (x : ND3) (lo hi : Nat) : ND3 := if leaf then ⟨cutL x.E lo hi, [], []⟩ else ⟨[], cutL x.K lo hi, cutL x.D lo hi⟩
theorem partN_sz {leaf : Bool} {x : ND3} {lo hi : Nat} (h : hi ≤ szN leaf x) : szN leaf (partN leaf x lo hi) = hi - lo := by
  cases leaf
  · exact cutL_len x.D lo hi h
  · exact cutL_len x.E lo hi h
theorem partN_ok {leaf : Bool} {x : ND3} {lo hi : Nat} (hx : okN leaf x) (h : hi ≤ szN leaf x) : okN leaf (partN leaf x lo hi) := by
  cases leaf
  · have h2 : hi ≤ x.D.length := h
    have h3 : x.K.length = x.D.length := hx.2
    exact ⟨rfl, by show (cutL x.K lo hi).length = (cutL x.D lo hi).length; rw [cutL_len _ _ _ (by omega), cutL_len _ _ _ h2]⟩
  · exact ⟨rfl, rfl⟩
theorem cutL_all {α : Type} (l : List α) : cutL l 0 l.length = l := by
  unfold cutL
  rw [List.drop_zero, Nat.sub_zero, List.take_length]
theorem cutL_app {α : Type} (l : List α) (m : Nat) (h : m ≤ l.length) : cutL l 0 m ++ cutL l m l.length = l := by
  unfold cutL
  rw [List.drop_zero, Nat.sub_zero, List.take_of_length_le (l := l.drop m) (by rw [List.length_drop]; omega), List.take_append_drop]
theorem partN_all {leaf : Bool} {x : ND3} (hx : okN leaf x) : partN leaf x 0 (szN leaf x) = x := by
  obtain ⟨E, K, D⟩ := x
  cases leaf
  · obtain ⟨h1, h2⟩ := hx
    simp only at h1 h2
    subst h1
    show ND3.mk [] (cutL K 0 D.length) (cutL D 0 D.length) = _
    rw [cutL_all, ← h2, cutL_all]
  · obtain ⟨h1, h2⟩ := hx
    simp only at h1 h2
    subst h1; subst h2
    show ND3.mk (cutL E 0 E.length) [] [] = _
    rw [cutL_all]
def mostN (leaf : Bool) : Nat := if leaf then 7 else 16
/-- the parts of a node -/
def splN (leaf : Bool) : Nat → ND3 → List ND3
  | 0, _ => []
  | f + 1, x => if szN leaf x = 0 then [] else if szN leaf x ≤ mostN leaf then [partN leaf x 0 (szN leaf x)] else
      splN leaf f (partN leaf x 0 ((szN leaf x + 1) / 2)) ++ splN leaf f (partN leaf x ((szN leaf x + 1) / 2) (szN leaf x))
theorem most_pos (leaf : Bool) : 7 ≤ mostN leaf := by cases leaf <;> decide
/-- the parts are neither too large nor, but for a single one, too small -/
theorem splN_sz {leaf : Bool} : ∀ (f : Nat) (x : ND3), okN leaf x → ∀ y ∈ splN leaf f x, okN leaf y ∧ 1 ≤ szN leaf y ∧ szN leaf y ≤ mostN leaf ∧ (mostN leaf < szN leaf x → mostN leaf ≤ 2 * szN leaf y)
  | 0, x, hx, y, hy => by cases hy
  | f + 1, x, hx, y, hy => by
    have hm := most_pos leaf
    rw [splN] at hy
    split at hy
    · cases hy
    · rename_i h0
      split at hy
      · rename_i h1
        simp only [List.mem_singleton] at hy
        subst hy
        have s1 := partN_sz (leaf := leaf) (x := x) (lo := 0) (Nat.le_refl (szN leaf x))
        exact ⟨partN_ok hx (Nat.le_refl _), by omega, by omega, fun c => by omega⟩
      · rename_i h1
        have a1 : (szN leaf x + 1) / 2 ≤ szN leaf x := by omega
        have s1 := partN_sz (leaf := leaf) (x := x) (lo := 0) a1
        have s2 := partN_sz (leaf := leaf) (x := x) (lo := (szN leaf x + 1) / 2) (Nat.le_refl _)
        have key : ∀ (p : ND3), okN leaf p → y ∈ splN leaf f p → mostN leaf ≤ 2 * szN leaf p → okN leaf y ∧ 1 ≤ szN leaf y ∧ szN leaf y ≤ mostN leaf ∧ mostN leaf ≤ 2 * szN leaf y := by
          intro p hp hyp hsz
          obtain ⟨k1, k2, k3, k4⟩ := splN_sz f p hp y hyp
          refine ⟨k1, k2, k3, ?_⟩
          by_cases hc : mostN leaf < szN leaf p
          · exact k4 hc
          · cases f with
            | zero => cases hyp
            | succ f =>
              rw [splN, if_neg (by omega), if_pos (by omega)] at hyp
              simp only [List.mem_singleton] at hyp
              rw [hyp, partN_sz (Nat.le_refl _)]
              omega
        rcases List.mem_append.1 hy with hy | hy
        · obtain ⟨k1, k2, k3, k4⟩ := key _ (partN_ok hx a1) hy (by omega)
          exact ⟨k1, k2, k3, fun _ => k4⟩
        · obtain ⟨k1, k2, k3, k4⟩ := key _ (partN_ok hx (Nat.le_refl _)) hy (by omega)
          exact ⟨k1, k2, k3, fun _ => k4⟩
end Go.Proofs.Ytckdlfbbkemklaa
end
section
/- Many texts that are read only: more of them. -/
namespace Go.Gv
open Go Go.RowKit
set_option linter.unusedVariables false
set_option linter.unusedSimpArgs false
theorem manyRd_both {l1 l2 : List (Value × Nat × List Value)} (w : World) (s1 s2 : Nat → Prop) (h1 : manyRd l1 (res w s1)) (h2 : manyRd l2 (res w s2)) : manyRd (l1 ++ l2) (res w (fun b => s1 b ∨ s2 b)) := by
  have up1 : ∀ b o, res w s1 b = some o → res w (fun b => s1 b ∨ s2 b) b = some o := fun b o h => by
    have := res_some h
    unfold res; rw [if_pos (.inl this.1)]; exact this.2
  have up2 : ∀ b o, res w s2 b = some o → res w (fun b => s1 b ∨ s2 b) b = some o := fun b o h => by
    have := res_some h
    unfold res; rw [if_pos (.inr this.1)]; exact this.2
  intro x hx
  rcases List.mem_append.1 hx with hx | hx
  · exact (h1 x hx).mono up1
  · exact (h2 x hx).mono up2
section
variable {P : Program} {w0 : World} {n : NT} {L : Slots} {H H1 H2 : List Atom}
/-- two lists of texts are one -/
theorem Tri.joinM {G : Act → World → Prop} {l1 l2 : List (Value × Nat × List Value)} (pA : Pull H (manyRd l1) H1) (pB : Pull H1 (manyRd l2) H2) (k : Tri w0 G n L (manyRd (l1 ++ l2) :: H2)) : Tri w0 G n L H :=
  Tri.merge pA pB (fun w s1 s2 _ h1 h2 => manyRd_both w s1 s2 h1 h2) k
/-- an owned row of elements of any size is one more -/
theorem Tri.joinS {G : Act → World → Prop} {e : TypeId} {size m : Nat} {v : Value} {xs : List Value} {l : List (Value × Nat × List Value)} (pA : Pull H (manyRd l) H1) (pB : Pull H1 (own e size v m xs) H2) (k : Tri w0 G n L (manyRd (l ++ [(v, m, xs)]) :: H2)) : Tri w0 G n L H :=
  Tri.merge pA pB (fun w s1 s2 _ h1 h2 => manyRd_add w s1 s2 h1 (own_Rd h2)) k
/-- no text at all -/
theorem Tri.noneM {G : Act → World → Prop} (k : Tri w0 G n L (manyRd [] :: H)) : Tri w0 G n L H := Tri.pure_ (fun h => manyRd_nil h) k
end
end Go.Gv
end
section
/- node: Split. -/
namespace Go.Proofs.Ytckdlfbbkemklaa
open Go Go.RowKit Go.Gv
set_option linter.unusedVariables false
set_option linter.unusedSimpArgs false

/-- the nodes of a list, and what they hold -/
def NDL (leaf : Bool) (VS : List (Value × Value × Value)) : List Value := VS.flatMap fun v => ndLL leaf v.1 v.2.1 v.2.2
def RDS : List (Value × Value × Value) → List ND3 → List (Value × Nat × List Value)
  | v :: VS, x :: xs => (v.1, x.E.length, EL x.E) :: (v.2.1, x.K.length, KL x.K) :: (v.2.2, x.D.length, NL x.D) :: RDS VS xs
  | _, _ => []
theorem RDS_app : ∀ (V1 V2 : List (Value × Value × Value)) (x1 x2 : List ND3), V1.length = x1.length → RDS (V1 ++ V2) (x1 ++ x2) = RDS V1 x1 ++ RDS V2 x2
  | [], V2, [], x2, _ => rfl
  | v :: V1, V2, x :: x1, x2, h => by
    rw [List.cons_append, List.cons_append, RDS, RDS, RDS_app V1 V2 x1 x2 (by simpa using h)]
    rfl
theorem NDL_app (leaf : Bool) (a b : List (Value × Value × Value)) : NDL leaf (a ++ b) = NDL leaf a ++ NDL leaf b := by simp [NDL]
theorem NDL_len (leaf : Bool) (a : List (Value × Value × Value)) : (NDL leaf a).length = a.length * 4 := flat_len (f := fun v : Value × Value × Value => ndLL leaf v.1 v.2.1 v.2.2) (fun _ => rfl) a
def ownX (leaf : Bool) (r : Value) (f : Nat) (x : ND3) (H : List Atom) : Prop := ∃ VS : List (Value × Value × Value), VS.length = (splN leaf f x).length ∧ (∀ v ∈ VS, ∃ A a B b C c i j k, v = (Value.slice A i a, Value.slice B j b, Value.slice C k c)) ∧ H = [own 33 4 r VS.length (NDL leaf VS), manyRd (RDS VS (splN leaf f x))]
theorem splN_len {leaf : Bool} : ∀ (f : Nat) (x : ND3), (splN leaf f x).length ≤ szN leaf x
  | 0, x => Nat.zero_le _
  | f + 1, x => by
    have hm := most_pos leaf
    rw [splN]
    split
    · exact Nat.zero_le _
    · split
      · show 1 ≤ _; omega
      · have a1 : (szN leaf x + 1) / 2 ≤ szN leaf x := by omega
        have s1 := partN_sz (leaf := leaf) (x := x) (lo := 0) a1
        have s2 := partN_sz (leaf := leaf) (x := x) (lo := (szN leaf x + 1) / 2) (Nat.le_refl _)
        have q1 := splN_len (leaf := leaf) f (partN leaf x 0 ((szN leaf x + 1) / 2))
        have q2 := splN_len (leaf := leaf) f (partN leaf x ((szN leaf x + 1) / 2) (szN leaf x))
        rw [List.length_append]; omega
theorem NDL_one {leaf : Bool} {VS : List (Value × Value × Value)} (h : ∀ v ∈ VS, ∃ A a B b C c i j k, v = (Value.slice A i a, Value.slice B j b, Value.slice C k c)) : ∀ y ∈ NDL leaf VS, y.oneCell' = true := by
  intro y hy
  obtain ⟨v, hv, hyv⟩ := List.mem_flatMap.1 hy
  obtain ⟨A, a, B, b, C, c, i, j, k, rfl⟩ := h v hv
  exact ndLL_one leaf A B C i a j b k c y hyv
/-- part, leaf or inner -/
theorem node_part (leaf : Bool) (ev kv dv : Value) (x : ND3) (lo hi : Nat) (hx : okN leaf x) (h1 : lo ≤ hi) (h2 : hi ≤ szN leaf x) (hb : hi ≤ 5000000) : SpecR Try.prog 49 #[ndW leaf ev kv dv, .int .i64 (lo : Int), .int .i64 (hi : Int)] (fun w => ndR w ev kv dv x.E x.K x.D) (fun r H' => ∃ u1 u2 u3, r = ndW leaf u1 u2 u3 ∧ H' = ownN u1 u2 u3 (partN leaf x lo hi).E (partN leaf x lo hi).K (partN leaf x lo hi).D) := by
  cases leaf
  · exact node_part_inner ev kv dv x.E x.K x.D lo hi h1 h2 hx.2 hb
  · exact node_part_leaf ev kv dv x.E x.K x.D lo hi h1 h2 hb
set_option maxHeartbeats 8000000 in
theorem node_Split (leaf : Bool) : ∀ (f : Nat) (x : ND3) (ev kv dv : Value), okN leaf x → szN leaf x ≤ f → szN leaf x ≤ 4500000 → SpecR Try.prog 11 #[ndW leaf ev kv dv] (fun w => ndR w ev kv dv x.E x.K x.D) (fun r H' => ownX leaf r (f + 1) x H') := by
  intro f
  induction f using Nat.strongRecOn with
  | ind f ih =>
  intro x ev kv dv hx hf hb
  refine SpecR.of (fun w hr => ?_)
  obtain ⟨hrE, hrK, hrD⟩ := id hr
  refine Calls.enter Try.func11 rfl rfl rfl (St.rebase w) ?_
  simp only [argSlots]
  (refine Tri.seq (Tri.region ?_); apply Tri.op; rfl)
  (first | (apply o_boxA; (case hx => rfl); (case hn => rfl); intro b1) | (apply o_box1; (case hx => rfl); (case h1 => rfl); (case hn => rfl); intro b1))
  (apply Tri.op; rfl; apply o_assign; rfl; rfl; refine Tri.nil (Tri.thenN (Tri.seq (Tri.region ?_))); apply Tri.op; rfl)
  (apply o_loadAll (cs := ndLL leaf ev kv dv); (case hx => rfl); (case p => exact (by (with_reducible repeat constructor))); (case hl => rfl); (case hn => rfl))
  (apply Tri.op; rfl)
  (apply o_callV (hs := node_Size leaf ev kv dv x.E x.K x.D); (case hargs => (repeat first | exact evs.nil | (apply evs.cons; case a => rfl))); (case hpre => exact fun w' hw' => ⟨rdw_ex (by (with_reducible repeat constructor)) hrE w' hw', rdw_ex (by (with_reducible repeat constructor)) hrK w' hw', rdw_ex (by (with_reducible repeat constructor)) hrD w' hw'⟩); (case hn => rfl))
  have hsz : sizeN leaf x.E x.D = szN leaf x := rfl
  rw [hsz]
  obtain ⟨n, hn⟩ : ∃ n, n = szN leaf x := ⟨_, rfl⟩
  rw [← hn] at hf hb ⊢
  (apply Tri.op; rfl; apply o_assign; rfl; rfl; apply Tri.op; rfl; apply o_assign; rfl; rfl; refine Tri.nil (Tri.thenN ?_))
  (apply Tri.seqMeet (α := Unit) (Lx := fun _ => [(1, .pointer (some ⟨b1, 0, none⟩)), (2, .slice none 0 0), (3, .int .i64 (n : Int)), (4, .int .i64 ((mostN leaf : Nat) : Int))]) (Hx := fun _ => [blk b1 33 (ndLL leaf ev kv dv), Ex (hp w)]); rotate_left; (rintro ⟨⟩; (try dsimp only)); rotate_left)
  · cases leaf
    · (refine Tri.seq (Tri.region ?_); apply Tri.op; rfl; apply o_fieldAddr; rfl; rfl; apply Tri.op; rfl; apply o_load; rfl; (with_reducible repeat constructor); rfl; rfl; refine Tri.nil (Tri.thenN ?_); apply Tri.condF; rfl; rfl; refine Tri.skip (Tri.thenN ?_))
      skip
      (apply Tri.reach (y := ()); (case hL => ((try dsimp only); (repeat (first | exact trivial | refine And.intro (by rfl) ?_)))); (case p => ((try dsimp only); (repeat (first | exact Pulls.nil | (apply Pulls.cons; (case a => (first | ((repeat (first | with_reducible exact Gv.Pull.head | with_reducible apply Gv.Pull.tail)); done) | (repeat (first | exact Gv.Pull.head | apply Gv.Pull.tail))))))))))
    · (refine Tri.seq (Tri.region ?_); apply Tri.op; rfl; apply o_fieldAddr; rfl; rfl; apply Tri.op; rfl; apply o_load; rfl; (with_reducible repeat constructor); rfl; rfl; refine Tri.nil (Tri.thenN ?_); apply Tri.condT; rfl; rfl; refine Tri.region ?_; apply Tri.op; rfl; apply o_assign; rfl; rfl; refine Tri.nil (Tri.thenN ?_))
      skip
      (apply Tri.reach (y := ()); (case hL => ((try dsimp only); (repeat (first | exact trivial | refine And.intro (by rfl) ?_)))); (case p => ((try dsimp only); (repeat (first | exact Pulls.nil | (apply Pulls.cons; (case a => (first | ((repeat (first | with_reducible exact Gv.Pull.head | with_reducible apply Gv.Pull.tail)); done) | (repeat (first | exact Gv.Pull.head | apply Gv.Pull.tail))))))))))
  have hm := most_pos leaf
  (refine Tri.seq (Tri.block (Tri.seq (Tri.region ?_))); apply Tri.op; rfl; apply o_move; rfl; rfl; apply Tri.op; rfl; apply o_eql; rfl; rfl; rfl; apply Tri.op; rfl; apply o_assign; rfl; rfl; refine Tri.nil (Tri.thenN ?_))
  (apply Tri.condD; (case hc => rfl); (all_goals intro h0))
  · have h0' : n = 0 := by omega
    have hs : splN leaf (f + 1) x = [] := by rw [splN, if_pos (by omega)]
    (refine Tri.seq (Tri.region ?_); apply Tri.op; rfl; apply o_assign; rfl; rfl; refine Tri.nil (Tri.thenN (Tri.ret (Tri.blockR (Tri.thenR ?_)))))
    (with_reducible apply Tri.ownNil 33 4)
    apply Tri.noneM
    (apply Tri.fin; (case hr => rfl); (case h => (repeat (first | exact ResL.nil | (apply ResL.cons; (case a => (first | exact Res1.tmp rfl | (apply Res1.cell; rfl; (with_reducible repeat constructor); rfl) | (apply Res1.agg; rfl; (with_reducible repeat constructor); rfl; rfl))))))); (apply fin_R (Hn := [own 33 4 (.slice none 0 0) 0 [], manyRd []])); (case p => (repeat first | with_reducible constructor | constructor)))
    exact ⟨[], (by rw [hs]; rfl), (fun v hv => by cases hv), (by rw [hs]; rfl)⟩
  · (refine Tri.seq (Tri.region ?_); apply Tri.op; rfl; apply o_move; rfl; rfl; apply Tri.op; rfl; apply o_move; rfl; rfl; apply Tri.op; rfl; apply o_leq; rfl; rfl; rfl; apply Tri.op; rfl; apply o_assign; rfl; rfl; refine Tri.nil (Tri.thenN ?_))
    (apply Tri.condD; (case hc => rfl); (all_goals intro h1))
    · have h1' : n ≤ mostN leaf := by omega
      have hs : splN leaf (f + 1) x = [partN leaf x 0 n] := by rw [splN, if_neg (by omega), if_pos (by omega), ← hn]
      (refine Tri.seq (Tri.region ?_); apply Tri.op; rfl)
      (apply o_loadAll (cs := ndLL leaf ev kv dv); (case hx => rfl); (case p => exact (by (with_reducible repeat constructor))); (case hl => rfl); (case hn => rfl))
      (apply Tri.op; rfl; apply o_move; rfl; rfl; apply Tri.op; rfl)
      obtain ⟨Q, hQ⟩ : ∃ Q, Q = partN leaf x 0 n := ⟨_, rfl⟩
      have hpart := node_part leaf ev kv dv x 0 n hx (Nat.zero_le _) (by omega) (by omega)
      rw [← hQ] at hpart hs
      (apply o_callR (hs := hpart); (case hargs => (repeat first | exact evs.nil | (apply evs.cons; case a => rfl))); (case hpre => exact fun w' hw' => ⟨rdw_ex (by (with_reducible repeat constructor)) hrE w' hw', rdw_ex (by (with_reducible repeat constructor)) hrK w' hw', rdw_ex (by (with_reducible repeat constructor)) hrD w' hw'⟩); (case hn => rfl))
      rintro r1 H1 ⟨u1, u2, u3, rfl, rfl⟩
      simp only [ownN]
      (try dsimp only [List.cons_append, List.nil_append])
      (refine Tri.shape (e := 100) (size := 8) (v := u1) (by (with_reducible repeat constructor)) ?_; rintro ⟨A1, c1, rfl⟩)
      (refine Tri.shape (e := 98) (size := 2) (v := u2) (by (with_reducible repeat constructor)) ?_; rintro ⟨A2, c2, rfl⟩)
      (refine Tri.shape (e := 3) (size := 1) (v := u3) (by (with_reducible repeat constructor)) ?_; rintro ⟨A3, c3, rfl⟩)
      (apply Tri.op; rfl)
      (apply o_litSl (ys := ndLL leaf (.slice A1 Q.E.length c1) (.slice A2 Q.K.length c2) (.slice A3 Q.D.length c3)); (case hp => (repeat first | exact pev.nil | (apply pev.cons; case a => rfl))); (case hm => rfl); (case hf => rfl); (case hn => rfl); intro vl)
      (apply Tri.op; rfl; apply o_assign; rfl; rfl; refine Tri.nil (Tri.thenN (Tri.ret (Tri.blockR (Tri.thenR ?_)))))
      apply Tri.noneM
      refine Tri.joinS (e := 100) (size := 8) (v := .slice A1 Q.E.length c1) (by (with_reducible repeat constructor)) (by (with_reducible repeat constructor)) ?_
      refine Tri.joinS (e := 98) (size := 2) (v := .slice A2 Q.K.length c2) (by (with_reducible repeat constructor)) (by (with_reducible repeat constructor)) ?_
      refine Tri.joinS (e := 3) (size := 1) (v := .slice A3 Q.D.length c3) (by (with_reducible repeat constructor)) (by (with_reducible repeat constructor)) ?_
      ((with_reducible apply Tri.eqA (A := own 33 4 vl _ _) (B := own 33 4 vl 1 (NDL leaf [(.slice A1 Q.E.length c1, .slice A2 Q.K.length c2, .slice A3 Q.D.length c3)]))); (case p => (with_reducible repeat constructor)); (case e => rfl))
      (apply Tri.fin; (case hr => rfl); (case h => (repeat (first | exact ResL.nil | (apply ResL.cons; (case a => (first | exact Res1.tmp rfl | (apply Res1.cell; rfl; (with_reducible repeat constructor); rfl) | (apply Res1.agg; rfl; (with_reducible repeat constructor); rfl; rfl))))))); (apply fin_R (Hn := [own 33 4 vl 1 (NDL leaf [(.slice A1 Q.E.length c1, .slice A2 Q.K.length c2, .slice A3 Q.D.length c3)]), manyRd ([] ++ [(.slice A1 Q.E.length c1, Q.E.length, EL Q.E)] ++ [(.slice A2 Q.K.length c2, Q.K.length, KL Q.K)] ++ [(.slice A3 Q.D.length c3, Q.D.length, NL Q.D)])])); (case p => (repeat first | with_reducible constructor | constructor)))
      exact ⟨[(.slice A1 Q.E.length c1, .slice A2 Q.K.length c2, .slice A3 Q.D.length c3)], (by rw [hs]; rfl), (fun v hv => by rw [List.mem_singleton.1 hv]; exact ⟨_, _, _, _, _, _, _, _, _, rfl⟩), (by rw [hs]; rfl)⟩
    · (refine Tri.skip (Tri.blockN (Tri.thenN (Tri.seq (Tri.region ?_)))); apply Tri.op; rfl; apply o_move; rfl; rfl; apply Tri.op; rfl; apply o_add64; rfl; rfl; rfl; (omega); apply Tri.op; rfl; apply o_quo; rfl; rfl; rfl; (omega); (omega); apply Tri.op; rfl; apply o_assign; rfl; rfl; refine Tri.nil (Tri.thenN (Tri.seq ?_)))
      have hn1 : mostN leaf < n := by omega
      obtain ⟨m, rfl⟩ : ∃ m, f = m + 1 := ⟨f - 1, by omega⟩
      obtain ⟨hh, hhd⟩ : ∃ hh, hh = (n + 1) / 2 := ⟨_, rfl⟩
      have hs : splN leaf (m + 1 + 1) x = splN leaf (m + 1) (partN leaf x 0 hh) ++ splN leaf (m + 1) (partN leaf x hh n) := by rw [splN, if_neg (by omega), if_neg (by omega), hhd, hn]
      have z1 : szN leaf (partN leaf x 0 hh) = hh - 0 := partN_sz (by omega)
      have z2 : szN leaf (partN leaf x hh n) = n - hh := partN_sz (by omega)
      have o1 : okN leaf (partN leaf x 0 hh) := partN_ok hx (by omega)
      have o2 : okN leaf (partN leaf x hh n) := partN_ok hx (by omega)
      have hpart1 := node_part leaf ev kv dv x 0 hh hx (Nat.zero_le _) (by omega) (by omega)
      have hpart2 := node_part leaf ev kv dv x hh n hx (by omega) (by omega) (by omega)
      have b1' := splN_len (leaf := leaf) (m + 1) (partN leaf x 0 hh)
      have b2' := splN_len (leaf := leaf) (m + 1) (partN leaf x hh n)
      have ih1 := fun e k d => ih m (by omega) (partN leaf x 0 hh) e k d o1 (by omega) (by omega)
      have ih2 := fun e k d => ih m (by omega) (partN leaf x hh n) e k d o2 (by omega) (by omega)
      obtain ⟨Q1, hQ1⟩ : ∃ Q, Q = partN leaf x 0 hh := ⟨_, rfl⟩
      obtain ⟨Q2, hQ2⟩ : ∃ Q, Q = partN leaf x hh n := ⟨_, rfl⟩
      rw [← hQ1] at hpart1 hs b1' ih1 z1
      rw [← hQ2] at hpart2 hs b2' ih2 z2
      ((with_reducible apply Tri.seti 5 ((hh : Int))); (case h => rfl); (case hi => omega))
      ((first | with_reducible apply Tri.mix [blk b1 33 (ndLL leaf ev kv dv), Ex (hp w)] | (apply TriR.mix [blk b1 33 (ndLL leaf ev kv dv), Ex (hp w)]; (case hnd => rfl))); (case p => (repeat first | with_reducible constructor | constructor)); (dsimp only [List.length]))
      ((first | (apply TriM.q 0; (case ho => rfl); (case hg => rfl)) | (apply TriM.qYes 0; (case ho => rfl); (case hg => rfl); (case hyl => rfl); (case hb => with_reducible rfl))); (case hB => kernel_rfl); (case hd => rfl); (case hn => rfl); (case h => (intro F K hK; (try dsimp only [List.cons_append, List.nil_append]); (apply o_loadAll (cs := ndLL leaf ev kv dv); (case hx => rfl); (case p => exact (by (with_reducible repeat constructor))); (case hl => rfl); (case hn => rfl)); exact hK)))
      ((first | (apply TriM.q 1; rfl; rfl) | (apply TriM.qYes 1; rfl; rfl; rfl; with_reducible rfl)); kernel_rfl; rfl; rfl; (intro F K hK; apply o_move; rfl; rfl; exact hK))
      ((first | (apply TriM.q 4; (case ho => rfl); (case hg => rfl)) | (apply TriM.qYes 4; (case ho => rfl); (case hg => rfl); (case hyl => rfl); (case hb => with_reducible rfl))); (case hB => kernel_rfl); (case hd => rfl); (case hn => rfl); (case h => (intro F K hK; (try dsimp only [List.cons_append, List.nil_append]); (apply o_loadAll (cs := ndLL leaf ev kv dv); (case hx => rfl); (case p => exact (by (with_reducible repeat constructor))); (case hl => rfl); (case hn => rfl)); exact hK)))
      ((first | (apply TriM.q 5; rfl; rfl) | (apply TriM.qYes 5; rfl; rfl; rfl; with_reducible rfl)); kernel_rfl; rfl; rfl; (intro F K hK; apply o_move; rfl; rfl; exact hK); (first | (apply TriM.q 6; rfl; rfl) | (apply TriM.qYes 6; rfl; rfl; rfl; with_reducible rfl)); kernel_rfl; rfl; rfl; (intro F K hK; apply o_move; rfl; rfl; exact hK))
      (apply TriM.a 2; (case ho => rfl); (case hg => rfl); (case hr => kernel_rfl); (try dsimp only [List.cons_append, List.nil_append]))
      (apply o_callR (hs := hpart1); (case hargs => (repeat first | exact evs.nil | (apply evs.cons; case a => rfl))); (case hpre => exact fun w' hw' => ⟨rdw_ex (by (with_reducible repeat constructor)) hrE w' hw', rdw_ex (by (with_reducible repeat constructor)) hrK w' hw', rdw_ex (by (with_reducible repeat constructor)) hrD w' hw'⟩); (case hn => rfl))
      rintro r1 H1 ⟨u1, u2, u3, rfl, rfl⟩
      simp only [ownN]
      (try dsimp only [List.cons_append, List.nil_append])
      (apply TriM.back; (case p => (repeat first | with_reducible constructor | constructor)))
      (apply TriM.a 3; (case ho => rfl); (case hg => rfl); (case hr => kernel_rfl); (try dsimp only [List.cons_append, List.nil_append]))
      (apply o_callR (hs := ih1 u1 u2 u3); (case hargs => (repeat first | exact evs.nil | (apply evs.cons; case a => rfl))); (case hpre => exact fun w' hw' => ⟨rdw_own (v := u1) (by (with_reducible repeat constructor)) w' hw', rdw_own (v := u2) (by (with_reducible repeat constructor)) w' hw', rdw_own (v := u3) (by (with_reducible repeat constructor)) w' hw'⟩); (case hn => rfl))
      rintro r2 H2 ⟨V1, hV1, hW1, rfl⟩
      (try dsimp only [List.cons_append, List.nil_append])
      (apply TriM.back; (case p => (repeat first | with_reducible constructor | constructor)))
      (apply TriM.a 7; (case ho => rfl); (case hg => rfl); (case hr => kernel_rfl); (try dsimp only [List.cons_append, List.nil_append]))
      (apply o_callR (hs := hpart2); (case hargs => (repeat first | exact evs.nil | (apply evs.cons; case a => rfl))); (case hpre => exact fun w' hw' => ⟨rdw_ex (by (with_reducible repeat constructor)) hrE w' hw', rdw_ex (by (with_reducible repeat constructor)) hrK w' hw', rdw_ex (by (with_reducible repeat constructor)) hrD w' hw'⟩); (case hn => rfl))
      rintro r3 H3 ⟨u4, u5, u6, rfl, rfl⟩
      simp only [ownN]
      (try dsimp only [List.cons_append, List.nil_append])
      (apply TriM.back; (case p => (repeat first | with_reducible constructor | constructor)))
      (apply TriM.a 8; (case ho => rfl); (case hg => rfl); (case hr => kernel_rfl); (try dsimp only [List.cons_append, List.nil_append]))
      (apply o_callR (hs := ih2 u4 u5 u6); (case hargs => (repeat first | exact evs.nil | (apply evs.cons; case a => rfl))); (case hpre => exact fun w' hw' => ⟨rdw_own (v := u4) (by (with_reducible repeat constructor)) w' hw', rdw_own (v := u5) (by (with_reducible repeat constructor)) w' hw', rdw_own (v := u6) (by (with_reducible repeat constructor)) w' hw'⟩); (case hn => rfl))
      rintro r4 H4 ⟨V2, hV2, hW2, rfl⟩
      (try dsimp only [List.cons_append, List.nil_append])
      (apply TriM.back; (case p => (repeat first | with_reducible constructor | constructor)))
      (apply TriM.a 9; (case ho => rfl); (case hg => rfl); (case hr => kernel_rfl); (try dsimp only [List.cons_append, List.nil_append]))
      (apply o_append; (case hx => rfl); (case hy => rfl); (case p => (with_reducible repeat constructor)); (case hr => exact rdw_own (v := r4) (by (with_reducible repeat constructor))); (case hl => exact NDL_len leaf V2); (case h1 => exact NDL_one hW2); (case hb => omega); (case hn => rfl))
      intro r5
      (apply TriM.back; (case p => (repeat first | with_reducible constructor | constructor)))
      ((first | (apply TriM.q 10; rfl; rfl) | (apply TriM.qYes 10; rfl; rfl; rfl; with_reducible rfl)); kernel_rfl; rfl; rfl; (intro F K hK; apply o_assign; rfl; rfl; exact hK))
      (apply TriM.nil; (case hr => kernel_rfl); (try dsimp only [List.cons_append, List.nil_append]))
      (refine Tri.thenN (Tri.ret ?_))
      refine Tri.joinM (l1 := RDS V1 (splN leaf (m + 1) Q1)) (l2 := RDS V2 (splN leaf (m + 1) Q2)) (by (with_reducible repeat constructor)) (by (with_reducible repeat constructor)) ?_
      ((with_reducible apply Tri.eqA (A := own 33 4 r5 _ _) (B := own 33 4 r5 (V1 ++ V2).length (NDL leaf (V1 ++ V2)))); (case p => (with_reducible repeat constructor)); (case e => (rw [List.length_append, NDL_app])))
      (apply Tri.fin; (case hr => rfl); (case h => (repeat (first | exact ResL.nil | (apply ResL.cons; (case a => (first | exact Res1.tmp rfl | (apply Res1.cell; rfl; (with_reducible repeat constructor); rfl) | (apply Res1.agg; rfl; (with_reducible repeat constructor); rfl; rfl))))))); (apply fin_R (Hn := [own 33 4 r5 (V1 ++ V2).length (NDL leaf (V1 ++ V2)), manyRd (RDS V1 (splN leaf (m + 1) Q1) ++ RDS V2 (splN leaf (m + 1) Q2))])); (case p => (repeat first | with_reducible constructor | constructor)))
      exact ⟨V1 ++ V2, (by rw [hs, List.length_append, List.length_append, hV1, hV2]), (fun v hv => by rcases List.mem_append.1 hv with q | q; exact hW1 v q; exact hW2 v q), (by rw [hs, RDS_app _ _ _ _ hV1]; rfl)⟩
end Go.Proofs.Ytckdlfbbkemklaa
end
section
/- node: the parts of a node, one by one; Join in one. -/
namespace Go.Proofs.Ytckdlfbbkemklaa
open Go Go.RowKit Go.Gv
set_option linter.unusedVariables false
set_option linter.unusedSimpArgs false

theorem rds_at : ∀ (VS : List (Value × Value × Value)) (xs : List ND3) (i : Nat) (v : Value × Value × Value) (y : ND3), VS[i]? = some v → xs[i]? = some y →
    (v.1, y.E.length, EL y.E) ∈ RDS VS xs ∧ (v.2.1, y.K.length, KL y.K) ∈ RDS VS xs ∧ (v.2.2, y.D.length, NL y.D) ∈ RDS VS xs
  | [], _, _, _, _, h, _ => by simp at h
  | _ :: _, [], _, _, _, _, h => by simp at h
  | u :: VS, x :: xs, 0, v, y, h1, h2 => by
    simp at h1 h2
    subst h1; subst h2
    exact ⟨.head _, .tail _ (.head _), .tail _ (.tail _ (.head _))⟩
  | u :: VS, x :: xs, i + 1, v, y, h1, h2 => by
    obtain ⟨a, b, c⟩ := rds_at VS xs i v y (by simpa using h1) (by simpa using h2)
    exact ⟨.tail _ (.tail _ (.tail _ a)), .tail _ (.tail _ (.tail _ b)), .tail _ (.tail _ (.tail _ c))⟩
theorem NDL_at {leaf : Bool} : ∀ (VS : List (Value × Value × Value)) (i : Nat) (v : Value × Value × Value), VS[i]? = some v → ((NDL leaf VS).drop (i * 4)).take 4 = ndLL leaf v.1 v.2.1 v.2.2
  | [], _, _, h => by simp at h
  | u :: VS, 0, v, h => by simp at h; subst h; rfl
  | u :: VS, i + 1, v, h => by
    have : (NDL leaf (u :: VS)).drop ((i + 1) * 4) = (NDL leaf VS).drop (i * 4) := by
      show (ndLL leaf u.1 u.2.1 u.2.2 ++ NDL leaf VS).drop ((i + 1) * 4) = _
      rw [show (i + 1) * 4 = (ndLL leaf u.1 u.2.1 u.2.2).length + i * 4 by show _ = 4 + _; omega, List.drop_append, Nat.add_sub_cancel_left, List.drop_eq_nil_of_le (by omega), List.nil_append]
    rw [this]
    exact NDL_at VS i v (by simpa using h)
end Go.Proofs.Ytckdlfbbkemklaa
end
