/- Texts of this claim, put together: NdWalk7, BmPlain, BmWalk, BmPlain2, BmWalk2, BmWalk3, NjPlain, NdWalk8, NdWalk9, SlWalk, SlWalk3, NjWalk, NjPlain2, GvMany, NjWalk3, NjPlain3, TvPlain, TvPlain2, TvPlain3, DvPlain2, LwPlain, WkPlain, WkPlain2. -/
import Derived.Test.YtckdlfbbkemklaaZ05
import Derived.Test.YtckdlfbbkemklaaZ02
import Derived.Test.YtckdlfbbkemklaaZ01
import Derived.Test.YtckdlfbbkemklaaZ03
import Derived.Test.YtckdlfbbkemklaaZ04
section
/- node: Get of any node. -/
namespace Go.Proofs.Ytckdlfbbkemklaa
open Go Go.RowKit Go.Gv
set_option linter.unusedVariables false
set_option linter.unusedSimpArgs false

theorem ndLL_one (lf : Bool) (A B C : Option Addr) (m c n d k e : Nat) : ∀ y ∈ ndLL lf (.slice A m c) (.slice B n d) (.slice C k e), y.oneCell' = true := by
  intro y hy; simp [ndLL] at hy; rcases hy with rfl | rfl | rfl | rfl <;> rfl
theorem ndLL_nil (lf : Bool) (A : Option Addr) (m c : Nat) : ∀ y ∈ ndLL lf (.slice A m c) (.slice none 0 0) (.slice none 0 0), y.oneCell' = true := ndLL_one lf A none none m c 0 0 0 0
theorem rd_nil0 (h : PH) : Rd h (.slice none 0 0) 0 [] := ⟨none, 0, rfl, ⟨Nat.le_refl _, Nat.zero_le _⟩, fun j u hu => by simp at hu⟩
set_option maxHeartbeats 8000000 in
theorem node_Get_leaf (v : Value) (l : List UInt8) : SpecR Try.prog 54 #[.bool true, v] (fun w => RdW w v l.length (B8 l)) (fun r H' => ∃ A c, r = .tuple #[ndW (decide ((getL l).2 = 0)) (.slice A (getL l).1.length c) (.slice none 0 0) (.slice none 0 0), .int .i64 ((getL l).2 : Int)] ∧ H' = [own 100 8 (.slice A (getL l).1.length c) (getL l).1.length (EL (getL l).1)]) := by
  refine SpecR.of (fun w hr => ?_)
  have hlen := hr.le
  obtain ⟨A0, c0, rfl, _⟩ := id hr
  refine Calls.enter Try.func54 rfl rfl rfl (St.rebase w) ?_
  simp only [argSlots]
  (refine Tri.seq (Tri.region ?_); apply Tri.op; rfl)
  (apply o_alloc; (case hn => rfl); intro b4)
  (apply Tri.op; rfl; apply o_assign; rfl; rfl; refine Tri.nil (Tri.thenN (Tri.seq (Tri.region ?_))); apply Tri.op; rfl; apply o_assign; rfl; rfl; refine Tri.nil (Tri.thenN (Tri.seq (Tri.seq (Tri.region ?_)))); apply Tri.op; rfl; apply o_move; rfl; rfl; refine Tri.nil (Tri.thenN ?_); apply Tri.condT; rfl; rfl; refine Tri.region ?_; apply Tri.op; rfl; apply o_assign; rfl; rfl; refine Tri.nil (Tri.thenN (Tri.seq (Tri.seq (Tri.region ?_)))); apply Tri.op; rfl; apply o_move; rfl; rfl; apply Tri.op; rfl; apply o_len; rfl; rfl; apply Tri.op; rfl; apply o_eql; rfl; rfl; rfl; apply Tri.op; rfl; apply o_move; rfl; rfl)
  ((with_reducible apply Tri.casesB 15); (case h => rfl); (all_goals intro h1))
  · have g1 := of_decide_eq_true h1
    have hg : getL l = ([], 3) := by rw [getL, if_pos (.inl (by omega))]
    ((iterate 10 apply Tri.opNo (c := true); (iterate 6 rfl)); apply Tri.op; rfl; apply o_pickT; (iterate 4 rfl); refine Tri.nil (Tri.thenN ?_); apply Tri.condT; rfl; rfl; refine Tri.seq (Tri.region ?_); apply Tri.op; rfl; apply o_build0; rfl; apply Tri.op; rfl)
    (apply o_storeAll (ys := ndLL false (.slice none 0 0) (.slice none 0 0) (.slice none 0 0)); (case hx => rfl); (case hy => rfl); (case p => (with_reducible repeat constructor)); (case hl => rfl); (case hc => rfl); (case h1 => exact ndLL_nil false none 0 0))
    (apply Tri.op; rfl; apply o_assign; rfl; rfl; refine Tri.nil (Tri.thenN (Tri.ret (Tri.thenR ?_))))
    (with_reducible apply Tri.ownNil 100 8)
    rw [hg]
    (apply Tri.fin; (case hr => rfl); (case h => exact ResL.cons ((Res1.agg rfl (by (with_reducible repeat constructor)) (by rw [List.drop_zero]; exact List.take_of_length_le (Nat.le_of_eq (ndLL_len false (.slice none 0 0) (.slice none 0 0) (.slice none 0 0)))) (ndLL_len false (.slice none 0 0) (.slice none 0 0) (.slice none 0 0)))) (ResL.cons (Res1.tmp rfl) (ResL.nil))); (apply fin_R (Hn := [own 100 8 (.slice none 0 0) 0 []])); (case p => exact (by (repeat first | with_reducible constructor | constructor))); exact ⟨none, 0, rfl, rfl⟩)
  · have g1 := of_decide_eq_false h1
    have x0 := (l.getD 0 0).toNat_lt
    (apply Tri.opYes; rfl; rfl; rfl; apply o_move; rfl; rfl; apply Tri.opYes; rfl; rfl; rfl; apply o_len; rfl; rfl; apply Tri.opYes; rfl; rfl; rfl; apply o_move; rfl; rfl; apply Tri.opYes; rfl; rfl; rfl)
    (apply o_ixRd (hr := hr) (j := 0); (case hx => rfl); (case hy => rfl); (case hj => rfl); (case hlt => omega); (case hl => (rw [B8_length]; omega)); (case hn => rfl))
    (apply Tri.opYes; rfl; rfl; rfl)
    (apply o_loadRd (v := .int .u8 ((l.getD 0 0).toNat : Int)) (hr := hr); (case hx => rfl); (case p => (with_reducible repeat constructor)); (case hv => exact get_or' l 0 (by omega)); (case hn => rfl))
    (apply Tri.opYes; rfl; rfl; rfl; apply o_convI; rfl; rfl; (first | decide | (exact wrap_i64 (by omega)) | (exact wrap_u8 (by omega)) | (exact wrap_u16 (by omega)) | (exact wrap_u32 (by omega)) | (exact wrap_u64 (by omega))); apply Tri.opYes; rfl; rfl; rfl; apply o_move; rfl; rfl; apply Tri.opYes; rfl; rfl; rfl; apply o_mul64; rfl; rfl; rfl; (omega); apply Tri.opYes; rfl; rfl; rfl; apply o_add64; rfl; rfl; rfl; (omega); apply Tri.opYes; rfl; rfl; rfl; apply o_neq; rfl; rfl; rfl; apply Tri.op; rfl; apply o_pickF; (iterate 4 rfl); refine Tri.nil (Tri.thenN ?_))
    (apply Tri.condD; (case hc => rfl); (all_goals intro h2))
    · have hg : getL l = ([], 3) := by rw [getL, if_pos (.inr (by unfold cntG; omega))]
      (refine Tri.seq (Tri.region ?_); apply Tri.op; rfl; apply o_build0; rfl; apply Tri.op; rfl)
      (apply o_storeAll (ys := ndLL false (.slice none 0 0) (.slice none 0 0) (.slice none 0 0)); (case hx => rfl); (case hy => rfl); (case p => (with_reducible repeat constructor)); (case hl => rfl); (case hc => rfl); (case h1 => exact ndLL_nil false none 0 0))
      (apply Tri.op; rfl; apply o_assign; rfl; rfl; refine Tri.nil (Tri.thenN (Tri.ret (Tri.thenR ?_))))
      (with_reducible apply Tri.ownNil 100 8)
      rw [hg]
      (apply Tri.fin; (case hr => rfl); (case h => exact ResL.cons ((Res1.agg rfl (by (with_reducible repeat constructor)) (by rw [List.drop_zero]; exact List.take_of_length_le (Nat.le_of_eq (ndLL_len false (.slice none 0 0) (.slice none 0 0) (.slice none 0 0)))) (ndLL_len false (.slice none 0 0) (.slice none 0 0) (.slice none 0 0)))) (ResL.cons (Res1.tmp rfl) (ResL.nil))); (apply fin_R (Hn := [own 100 8 (.slice none 0 0) 0 []])); (case p => exact (by (repeat first | with_reducible constructor | constructor))); exact ⟨none, 0, rfl, rfl⟩)
    · obtain ⟨n, hn⟩ : ∃ n, n = cntG l := ⟨_, rfl⟩
      have hn' : n = (l.getD 0 0).toNat := hn
      have hll : l.length = 1 + n * 30 := by omega
      (refine Tri.skip (Tri.thenN (Tri.seq (Tri.region ?_))); apply Tri.op; rfl; apply o_move; rfl; rfl; apply Tri.op; rfl)
      (apply o_build (ys := ndLL true (.slice none 0 0) (.slice none 0 0) (.slice none 0 0)); (case hp => (repeat first | exact pev.nil | (apply pev.cons; case a => rfl))); (case hf => rfl); (case hn => rfl))
      (apply Tri.op; rfl)
      (apply o_alloc; (case hn => rfl); intro b7)
      (apply Tri.op; rfl)
      (apply o_storeAll (ys := ndLL true (.slice none 0 0) (.slice none 0 0) (.slice none 0 0)); (case hx => rfl); (case hy => rfl); (case p => (with_reducible repeat constructor)); (case hl => rfl); (case hc => rfl); (case h1 => exact ndLL_nil true none 0 0))
      (refine Tri.nil (Tri.thenN (Tri.seq (Tri.region ?_))); apply Tri.op; rfl; apply o_move; rfl; rfl; apply Tri.op; rfl)
      (apply o_slice (lo := 1) (hi := l.length); (case hx => rfl); (case hr => exact rdw_ex (by (with_reducible repeat constructor)) hr); (case hol => first | exact fun _ _ => rfl | exact fun a ha => congrArg some (ha.eval rfl)); (case hoh => first | exact fun _ _ => rfl | exact fun a ha => congrArg some (ha.eval rfl)); (case hlo => first | exact .inr ⟨rfl, rfl⟩ | exact .inl ⟨_, rfl⟩ | exact .inl ⟨_, (by congr 2; omega)⟩); (case hhi => first | exact .inr ⟨rfl, rfl⟩ | exact .inl ⟨_, rfl⟩ | exact .inl ⟨_, (by congr 2; omega)⟩); (case hlh => omega); (case hhm => omega); (case hn => rfl))
      have hd1 := drop_rd hr 1 (by omega)
      obtain ⟨A1, c1, he, _⟩ := id hd1
      rw [he] at hd1
      ((with_reducible apply Tri.setv 31 ((.slice A1 (l.drop 1).length c1))); (case h => rfl); (case hv => exact he))
      (apply Tri.op; rfl)
      (apply o_build (ys := [.slice A1 (l.drop 1).length c1]); (case hp => (repeat first | exact pev.nil | (apply pev.cons; case a => rfl))); (case hf => rfl); (case hn => rfl))
      (apply Tri.op; rfl)
      (first | (apply o_boxA; (case hx => rfl); (case hn => rfl); intro b8) | (apply o_box1; (case hx => rfl); (case h1 => rfl); (case hn => rfl); intro b8))
      (apply Tri.op; rfl; apply o_assign; rfl; rfl; refine Tri.nil (Tri.thenN (Tri.seq (Tri.seq (Tri.region ?_)))); apply Tri.op; rfl; apply o_move; rfl; rfl; apply Tri.op; rfl)
      (apply o_ixRd (hr := hr) (j := 0); (case hx => rfl); (case hy => rfl); (case hj => rfl); (case hlt => omega); (case hl => (rw [B8_length]; omega)); (case hn => rfl))
      (apply Tri.op; rfl)
      (apply o_loadRd (v := .int .u8 ((l.getD 0 0).toNat : Int)) (hr := hr); (case hx => rfl); (case p => (with_reducible repeat constructor)); (case hv => exact get_or' l 0 (by omega)); (case hn => rfl))
      (apply Tri.op; rfl; apply o_convI; rfl; rfl; (first | decide | (exact wrap_i64 (by omega)) | (exact wrap_u8 (by omega)) | (exact wrap_u16 (by omega)) | (exact wrap_u32 (by omega)) | (exact wrap_u64 (by omega))); apply Tri.op; rfl; apply o_move; rfl; rfl; refine Tri.nil (Tri.thenN (Tri.block ?_)))
      (with_reducible apply Tri.ownNil 100 8)
      ((with_reducible apply Tri.eqA (A := own 100 8 _ 0 []) (B := own 100 8 (.slice none 0 0) 0 (EL (entsG l 0)))); (case p => (with_reducible repeat constructor)); (case e => rfl))
      ((with_reducible apply Tri.seti 37 ((n : Int))); (case h => rfl); (case hi => (rw [hn'])))
      (apply Tri.loop (α := Σ' (i : Nat) (Ak : Option Addr) (ck : Nat) (A1 : Option Addr) (c1 : Nat), i ≤ n ∧ Rd (hp w) (.slice A1 (l.drop (1 + i * 30)).length c1) (l.drop (1 + i * 30)).length (B8 (l.drop (1 + i * 30)))) (m := fun x => n - x.1) (Lx := fun x => [(0, .bool true), (1, .slice A0 l.length c0), (4, .pointer (some ⟨b4, 0, none⟩)), (7, .pointer (some ⟨b7, 0, none⟩)), (8, .pointer (some ⟨b8, 0, none⟩)), (37, .int .i64 (n : Int)), (38, .int .i64 (x.1 : Int))]) (Hx := fun x => [blk b4 33 [.bool false, .slice none 0 0, .slice none 0 0, .slice none 0 0], blk b7 33 (ndLL true (.slice x.2.1 x.1 x.2.2.1) (.slice none 0 0) (.slice none 0 0)), blk b8 179 [.slice x.2.2.2.1 (l.drop (1 + x.1 * 30)).length x.2.2.2.2.1], own 100 8 (.slice x.2.1 x.1 x.2.2.1) x.1 (EL (entsG l x.1)), Ex (hp w)]) (x0 := ⟨0, none, 0, A1, c1, Nat.zero_le _, hd1⟩); (case hL => ((try dsimp only); (repeat (first | exact trivial | refine And.intro (by rfl) ?_)))); (case hH => ((try dsimp only); apply St.all; (repeat first | with_reducible constructor | constructor)))); (rintro ⟨i, Ak, ck, A1, c1, hi, hu⟩ mx hmx; (try dsimp only at hmx ⊢))
      (refine Tri.seq (Tri.region ?_); apply Tri.op; rfl; apply o_lss; rfl; rfl; rfl; refine Tri.nil (Tri.thenN (Tri.seq ?_)))
      (apply Tri.condD; (case hc => rfl); (all_goals intro hc))
      · have hin : i < n := by omega
        (refine Tri.skip (Tri.thenN (Tri.seq (Tri.block (Tri.seq (Tri.seq (Tri.region ?_)))))); apply Tri.op; rfl; apply o_move; rfl; rfl; refine Tri.nil (Tri.thenN ?_); apply Tri.condT; rfl; rfl; refine Tri.seq ?_)
        ((first | with_reducible apply Tri.mix [Ex (hp w)] | (apply TriR.mix [Ex (hp w)]; (case hnd => rfl))); (case p => (repeat first | with_reducible constructor | constructor)); (dsimp only [List.length]))
        ((first | (apply TriM.q 0; rfl; rfl) | (apply TriM.qYes 0; rfl; rfl; rfl; with_reducible rfl)); kernel_rfl; rfl; rfl; (intro F K hK; apply o_fieldAddr; rfl; rfl; exact hK); (first | (apply TriM.q 2; rfl; rfl) | (apply TriM.qYes 2; rfl; rfl; rfl; with_reducible rfl)); kernel_rfl; rfl; rfl; (intro F K hK; apply o_move; rfl; rfl; exact hK))
        (apply TriM.a2 1 3; (case hoi => rfl); (case hoj => rfl); (case hgi => rfl); (case hgj => rfl); (case hr => kernel_rfl); (all_goals (try dsimp only [List.cons_append, List.nil_append])))
        · (apply o_load; (case hx => rfl); (case p => (with_reducible repeat constructor)); (case hv => rfl); (case hn => rfl))
          (apply TriM.back; (case p => (repeat first | with_reducible constructor | constructor)))
          (apply TriM.a 3; (case ho => rfl); (case hg => rfl); (case hr => kernel_rfl); (try dsimp only [List.cons_append, List.nil_append]))
          ((with_reducible apply o_callS (hs := node_entry b8 (.slice A1 (l.drop (1 + i * 30)).length c1) (l.drop (1 + i * 30)) (hp w) hu (by rw [List.length_drop]; omega))); (case hargs => (repeat first | exact evs.nil | (apply evs.cons; case a => rfl))); (case p => (repeat first | with_reducible constructor | constructor)); (case hn => rfl))
          rintro x1 H1 ⟨rfl, A2, c2, hr2, rfl⟩
          simp only [List.drop_drop] at hr2 ⊢
          rw [show 1 + i * 30 + 30 = 1 + (i + 1) * 30 by omega] at hr2 ⊢
          (try dsimp only [List.cons_append, List.nil_append])
          (apply TriM.back; (case p => (repeat first | with_reducible constructor | constructor)))
          (apply TriM.a 4; (case ho => rfl); (case hg => rfl); (case hr => kernel_rfl); (try dsimp only [List.cons_append, List.nil_append]))
          (apply o_litSl (ys := entL (entP (l.drop (1 + i * 30)))); (case hp => (repeat first | exact pev.nil | (apply pev.cons; case a => rfl))); (case hm => rfl); (case hf => rfl); (case hn => rfl); intro vl)
          (apply TriM.back; (case p => (repeat first | with_reducible constructor | constructor)))
          (apply TriM.a 5; (case ho => rfl); (case hg => rfl); (case hr => kernel_rfl); (try dsimp only [List.cons_append, List.nil_append]))
          (apply o_append; (case hx => rfl); (case hy => rfl); (case p => (with_reducible repeat constructor)); (case hr => exact rdw_own (by (with_reducible repeat constructor))); (case hl => rfl); (case h1 => exact entL_one _); (case hb => omega); (case hn => rfl))
          intro kv2
          (refine Tri.shape (e := 100) (size := 8) (v := kv2) (by (with_reducible repeat constructor)) ?_; rintro ⟨A3, c3, rfl⟩)
          (apply TriM.back; (case p => (repeat first | with_reducible constructor | constructor)))
          ((first | (apply TriM.q 6; rfl; rfl) | (apply TriM.qYes 6; rfl; rfl; rfl; with_reducible rfl)); kernel_rfl; rfl; rfl; (intro F K hK; apply o_fieldAddr; rfl; rfl; exact hK))
          (apply TriM.a 7; (case ho => rfl); (case hg => rfl); (case hr => kernel_rfl); (try dsimp only [List.cons_append, List.nil_append]))
          (apply o_store; (case hx => rfl); (case hy => rfl); (case h1 => rfl); (case p => (with_reducible repeat constructor)); (case hi => (show 1 < 4; omega)))
          (apply TriM.back; (case p => (repeat first | with_reducible constructor | constructor)))
          (apply TriM.nil; (case hr => kernel_rfl); (try dsimp only [List.cons_append, List.nil_append]))
          (refine Tri.thenN (Tri.exit (Tri.thenE (Tri.blockE (Tri.thenN (Tri.region ?_))))); apply Tri.op; rfl; apply o_add64; rfl; rfl; rfl; (omega); apply Tri.op; rfl; apply o_move; rfl; rfl; refine Tri.nil (Tri.thenN ?_))
          ((with_reducible apply Tri.eqA (A := own 100 8 (.slice A3 _ c3) _ _) (B := own 100 8 (.slice A3 (i + 1) c3) (i + 1) (EL (entsG l (i + 1))))); (case p => (with_reducible repeat constructor)); (case e => (rw [entsG_succ, EL_snoc])))
          (apply Tri.again (y := ⟨i + 1, A3, c3, A2, c2, by omega, hr2⟩); (case p => ((try dsimp only); (repeat (first | exact Pulls.nil | (apply Pulls.cons; (case a => (first | ((repeat (first | with_reducible exact Gv.Pull.head | with_reducible apply Gv.Pull.tail)); done) | (repeat (first | exact Gv.Pull.head | apply Gv.Pull.tail))))))))); (case hm => ((try dsimp only); omega)); (try dsimp only))
          (repeat (first | exact trivial | refine And.intro (by rfl) ?_))
        · ((with_reducible apply o_callS (hs := node_entry b8 (.slice A1 (l.drop (1 + i * 30)).length c1) (l.drop (1 + i * 30)) (hp w) hu (by rw [List.length_drop]; omega))); (case hargs => (repeat first | exact evs.nil | (apply evs.cons; case a => rfl))); (case p => (repeat first | with_reducible constructor | constructor)); (case hn => rfl))
          rintro x1 H1 ⟨rfl, A2, c2, hr2, rfl⟩
          simp only [List.drop_drop] at hr2 ⊢
          rw [show 1 + i * 30 + 30 = 1 + (i + 1) * 30 by omega] at hr2 ⊢
          (try dsimp only [List.cons_append, List.nil_append])
          (apply TriM.back; (case p => (repeat first | with_reducible constructor | constructor)))
          (apply TriM.a2 1 4; (case hoi => rfl); (case hoj => rfl); (case hgi => rfl); (case hgj => rfl); (case hr => kernel_rfl); (all_goals (try dsimp only [List.cons_append, List.nil_append])))
          · (apply o_load; (case hx => rfl); (case p => (with_reducible repeat constructor)); (case hv => rfl); (case hn => rfl))
            (apply TriM.back; (case p => (repeat first | with_reducible constructor | constructor)))
            (apply TriM.a 4; (case ho => rfl); (case hg => rfl); (case hr => kernel_rfl); (try dsimp only [List.cons_append, List.nil_append]))
            (apply o_litSl (ys := entL (entP (l.drop (1 + i * 30)))); (case hp => (repeat first | exact pev.nil | (apply pev.cons; case a => rfl))); (case hm => rfl); (case hf => rfl); (case hn => rfl); intro vl)
            (apply TriM.back; (case p => (repeat first | with_reducible constructor | constructor)))
            (apply TriM.a 5; (case ho => rfl); (case hg => rfl); (case hr => kernel_rfl); (try dsimp only [List.cons_append, List.nil_append]))
            (apply o_append; (case hx => rfl); (case hy => rfl); (case p => (with_reducible repeat constructor)); (case hr => exact rdw_own (by (with_reducible repeat constructor))); (case hl => rfl); (case h1 => exact entL_one _); (case hb => omega); (case hn => rfl))
            intro kv2
            (refine Tri.shape (e := 100) (size := 8) (v := kv2) (by (with_reducible repeat constructor)) ?_; rintro ⟨A3, c3, rfl⟩)
            (apply TriM.back; (case p => (repeat first | with_reducible constructor | constructor)))
            ((first | (apply TriM.q 6; rfl; rfl) | (apply TriM.qYes 6; rfl; rfl; rfl; with_reducible rfl)); kernel_rfl; rfl; rfl; (intro F K hK; apply o_fieldAddr; rfl; rfl; exact hK))
            (apply TriM.a 7; (case ho => rfl); (case hg => rfl); (case hr => kernel_rfl); (try dsimp only [List.cons_append, List.nil_append]))
            (apply o_store; (case hx => rfl); (case hy => rfl); (case h1 => rfl); (case p => (with_reducible repeat constructor)); (case hi => (show 1 < 4; omega)))
            (apply TriM.back; (case p => (repeat first | with_reducible constructor | constructor)))
            (apply TriM.nil; (case hr => kernel_rfl); (try dsimp only [List.cons_append, List.nil_append]))
            (refine Tri.thenN (Tri.exit (Tri.thenE (Tri.blockE (Tri.thenN (Tri.region ?_))))); apply Tri.op; rfl; apply o_add64; rfl; rfl; rfl; (omega); apply Tri.op; rfl; apply o_move; rfl; rfl; refine Tri.nil (Tri.thenN ?_))
            ((with_reducible apply Tri.eqA (A := own 100 8 (.slice A3 _ c3) _ _) (B := own 100 8 (.slice A3 (i + 1) c3) (i + 1) (EL (entsG l (i + 1))))); (case p => (with_reducible repeat constructor)); (case e => (rw [entsG_succ, EL_snoc])))
            (apply Tri.again (y := ⟨i + 1, A3, c3, A2, c2, by omega, hr2⟩); (case p => ((try dsimp only); (repeat (first | exact Pulls.nil | (apply Pulls.cons; (case a => (first | ((repeat (first | with_reducible exact Gv.Pull.head | with_reducible apply Gv.Pull.tail)); done) | (repeat (first | exact Gv.Pull.head | apply Gv.Pull.tail))))))))); (case hm => ((try dsimp only); omega)); (try dsimp only))
            (repeat (first | exact trivial | refine And.intro (by rfl) ?_))
          · (apply o_litSl (ys := entL (entP (l.drop (1 + i * 30)))); (case hp => (repeat first | exact pev.nil | (apply pev.cons; case a => rfl))); (case hm => rfl); (case hf => rfl); (case hn => rfl); intro vl)
            (apply TriM.back; (case p => (repeat first | with_reducible constructor | constructor)))
            (apply TriM.a 1; (case ho => rfl); (case hg => rfl); (case hr => kernel_rfl); (try dsimp only [List.cons_append, List.nil_append]))
            (apply o_load; (case hx => rfl); (case p => (with_reducible repeat constructor)); (case hv => rfl); (case hn => rfl))
            (apply TriM.back; (case p => (repeat first | with_reducible constructor | constructor)))
            (apply TriM.a 5; (case ho => rfl); (case hg => rfl); (case hr => kernel_rfl); (try dsimp only [List.cons_append, List.nil_append]))
            (apply o_append; (case hx => rfl); (case hy => rfl); (case p => (with_reducible repeat constructor)); (case hr => exact rdw_own (by (with_reducible repeat constructor))); (case hl => rfl); (case h1 => exact entL_one _); (case hb => omega); (case hn => rfl))
            intro kv2
            (refine Tri.shape (e := 100) (size := 8) (v := kv2) (by (with_reducible repeat constructor)) ?_; rintro ⟨A3, c3, rfl⟩)
            (apply TriM.back; (case p => (repeat first | with_reducible constructor | constructor)))
            ((first | (apply TriM.q 6; rfl; rfl) | (apply TriM.qYes 6; rfl; rfl; rfl; with_reducible rfl)); kernel_rfl; rfl; rfl; (intro F K hK; apply o_fieldAddr; rfl; rfl; exact hK))
            (apply TriM.a 7; (case ho => rfl); (case hg => rfl); (case hr => kernel_rfl); (try dsimp only [List.cons_append, List.nil_append]))
            (apply o_store; (case hx => rfl); (case hy => rfl); (case h1 => rfl); (case p => (with_reducible repeat constructor)); (case hi => (show 1 < 4; omega)))
            (apply TriM.back; (case p => (repeat first | with_reducible constructor | constructor)))
            (apply TriM.nil; (case hr => kernel_rfl); (try dsimp only [List.cons_append, List.nil_append]))
            (refine Tri.thenN (Tri.exit (Tri.thenE (Tri.blockE (Tri.thenN (Tri.region ?_))))); apply Tri.op; rfl; apply o_add64; rfl; rfl; rfl; (omega); apply Tri.op; rfl; apply o_move; rfl; rfl; refine Tri.nil (Tri.thenN ?_))
            ((with_reducible apply Tri.eqA (A := own 100 8 (.slice A3 _ c3) _ _) (B := own 100 8 (.slice A3 (i + 1) c3) (i + 1) (EL (entsG l (i + 1))))); (case p => (with_reducible repeat constructor)); (case e => (rw [entsG_succ, EL_snoc])))
            (apply Tri.again (y := ⟨i + 1, A3, c3, A2, c2, by omega, hr2⟩); (case p => ((try dsimp only); (repeat (first | exact Pulls.nil | (apply Pulls.cons; (case a => (first | ((repeat (first | with_reducible exact Gv.Pull.head | with_reducible apply Gv.Pull.tail)); done) | (repeat (first | exact Gv.Pull.head | apply Gv.Pull.tail))))))))); (case hm => ((try dsimp only); omega)); (try dsimp only))
            (repeat (first | exact trivial | refine And.intro (by rfl) ?_))
      · obtain rfl : i = n := by omega
        have hnk : (entsG l i).length = i := entsG_length l i
        have hRe : ∀ e ∈ entsG l i, entR e := fun e he => by
          obtain ⟨k, hk, rfl⟩ := List.mem_map.1 he
          have hk' : k < i := List.mem_range.1 hk
          have hb : ∀ a m, a + m ≤ 30 → numB (((l.drop (1 + k * 30)).drop a).take m) < 256 ^ m := fun a m h => by
            have := numB_lt (((l.drop (1 + k * 30)).drop a).take m)
            rwa [show (((l.drop (1 + k * 30)).drop a).take m).length = m by rw [List.length_take, List.length_drop, List.length_drop]; omega] at this
          have q0 := hb 4 8 (by omega)
          have q1 := hb 12 8 (by omega)
          have q6 := hb 26 4 (by omega)
          refine ⟨?_, ?_, q6⟩
          · unfold i64R; simp only [entP]; unfold s64; split <;> omega
          · unfold i64R; simp only [entP]; unfold s64; split <;> omega
        ((with_reducible refine Tri.exit (Tri.thenE (Tri.thenE (Tri.blockE (Tri.thenN (Tri.seq (Tri.region ?_))))))); apply Tri.op; rfl)
        (apply o_loadAll (cs := ndLL true (.slice Ak i ck) (.slice none 0 0) (.slice none 0 0)); (case hx => rfl); (case p => (with_reducible repeat constructor)); (case hl => rfl); (case hn => rfl))
        (apply Tri.op; rfl)
        have hpre : ∀ {H H1 : List Atom} (p1 : Pull H (own 100 8 (.slice Ak i ck) i (EL (entsG l i))) H1) (w' : World), St w w' H → ndR w' (.slice Ak i ck) (.slice none 0 0) (.slice none 0 0) (entsG l i) [] [] := fun p1 w' hw' => ⟨by rw [hnk]; exact rdw_own p1 w' hw', rd_nil0 _, rd_nil0 _⟩
        by_cases hok : leafB (entsG l i) = true
        · have hrn : rightN true (entsG l i) [] [] = true := by rw [rightN, if_pos rfl, hok]; rfl
          (apply o_callR (hs := node_PutN true (.slice Ak i ck) (.slice none 0 0) (.slice none 0 0) (entsG l i) [] [] hrn hRe); (case hargs => (repeat first | exact evs.nil | (apply evs.cons; case a => rfl))); (case hpre => exact hpre (by (with_reducible repeat constructor))); (case hn => rfl))
          rintro r1 H1 ⟨u, rfl, rfl⟩
          rw [show putN true (entsG l i) [] [] = putL (entsG l i) from rfl]
          (try dsimp only [List.cons_append, List.nil_append])
          (apply Tri.op; rfl; apply o_move; rfl; rfl; apply Tri.op; rfl; apply o_extract; rfl; rfl; rfl; apply Tri.op; rfl; apply o_extract; rfl; rfl; rfl; apply Tri.op; rfl; apply o_assign; rfl; rfl; apply Tri.op; rfl; apply o_assign; rfl; rfl; refine Tri.nil (Tri.thenN (Tri.seq (Tri.seq (Tri.region ?_)))); apply Tri.op; rfl; apply o_move; rfl; rfl; apply Tri.op; rfl; apply o_neq; rfl; rfl; rfl; apply Tri.op; rfl; apply o_move; rfl; rfl)
          ((with_reducible apply Tri.setb 71 (false)); (case h => rfl); (case hi => rfl))
          (apply Tri.opYes; rfl; rfl; rfl; apply o_move; rfl; rfl; apply Tri.opYes; rfl; rfl; rfl; apply o_move; rfl; rfl; apply Tri.opYes; rfl; rfl; rfl)
          (apply o_callV (hs := bytes_Equal2 u (.slice A0 l.length c0) (putL (entsG l i)) l); (case hargs => (repeat first | exact evs.nil | (apply evs.cons; case a => rfl))); (case hpre => exact fun w' hw' => ⟨rdw_own (by (with_reducible repeat constructor)) w' hw', rdw_ex (by (with_reducible repeat constructor)) hr w' hw'⟩); (case hn => rfl))
          (apply Tri.opYes; rfl; rfl; rfl; apply o_notD; rfl; rfl; apply Tri.op; rfl; apply o_pickF; (iterate 4 rfl); refine Tri.nil (Tri.thenN ?_))
          by_cases hpe : putL (entsG l i) = l
          · have hg : getL l = (entsG l i, 0) := by rw [getL, if_neg (by rw [← hn]; omega), ← hn, if_pos ⟨hok, hpe⟩]
            ((with_reducible apply Tri.setb 76 (false)); (case h => rfl); (case hi => simp [hpe]))
            (apply Tri.condF; rfl; rfl; refine Tri.skip (Tri.thenN (Tri.seq (Tri.region ?_))); apply Tri.op; rfl)
            (apply o_loadAll (cs := ndLL true (.slice Ak i ck) (.slice none 0 0) (.slice none 0 0)); (case hx => rfl); (case p => (with_reducible repeat constructor)); (case hl => rfl); (case hn => rfl))
            (apply Tri.op; rfl)
            (apply o_storeAll (ys := ndLL true (.slice Ak i ck) (.slice none 0 0) (.slice none 0 0)); (case hx => rfl); (case hy => rfl); (case p => (with_reducible repeat constructor)); (case hl => rfl); (case hc => rfl); (case h1 => exact ndLL_nil true Ak i ck))
            (apply Tri.op; rfl; apply o_assign; rfl; rfl; refine Tri.nil (Tri.thenN (Tri.ret ?_)))
            rw [hg]
            simp only [hnk]
            (apply Tri.fin; (case hr => rfl); (case h => exact ResL.cons ((Res1.agg rfl (by (with_reducible repeat constructor)) (by rw [List.drop_zero]; exact List.take_of_length_le (Nat.le_of_eq (ndLL_len true (.slice Ak i ck) (.slice none 0 0) (.slice none 0 0)))) (ndLL_len true (.slice Ak i ck) (.slice none 0 0) (.slice none 0 0)))) (ResL.cons (Res1.tmp rfl) (ResL.nil))); (apply fin_R (Hn := [own 100 8 (.slice Ak i ck) i (EL (entsG l i))])); (case p => exact (by (repeat first | with_reducible constructor | constructor))); exact ⟨Ak, ck, rfl, rfl⟩)
          · have hg : getL l = ([], 3) := by rw [getL, if_neg (by rw [← hn]; omega), ← hn, if_neg (fun h => hpe h.2)]
            ((with_reducible apply Tri.setb 76 (true)); (case h => rfl); (case hi => simp [hpe]))
            (apply Tri.condT; rfl; rfl; refine Tri.seq (Tri.region ?_); apply Tri.op; rfl; apply o_build0; rfl; apply Tri.op; rfl)
            (apply o_storeAll (ys := ndLL false (.slice none 0 0) (.slice none 0 0) (.slice none 0 0)); (case hx => rfl); (case hy => rfl); (case p => (with_reducible repeat constructor)); (case hl => rfl); (case hc => rfl); (case h1 => exact ndLL_nil false none 0 0))
            (apply Tri.op; rfl; apply o_assign; rfl; rfl; refine Tri.nil (Tri.thenN (Tri.ret (Tri.thenR ?_))))
            (with_reducible apply Tri.ownNil 100 8)
            rw [hg]
            (apply Tri.fin; (case hr => rfl); (case h => exact ResL.cons ((Res1.agg rfl (by (with_reducible repeat constructor)) (by rw [List.drop_zero]; exact List.take_of_length_le (Nat.le_of_eq (ndLL_len false (.slice none 0 0) (.slice none 0 0) (.slice none 0 0)))) (ndLL_len false (.slice none 0 0) (.slice none 0 0) (.slice none 0 0)))) (ResL.cons (Res1.tmp rfl) (ResL.nil))); (apply fin_R (Hn := [own 100 8 (.slice none 0 0) 0 []])); (case p => exact (by (repeat first | with_reducible constructor | constructor))); exact ⟨none, 0, rfl, rfl⟩)
        · have hg : getL l = ([], 3) := by rw [getL, if_neg (by rw [← hn]; omega), ← hn, if_neg (fun h => hok h.1)]
          have hrn : rightN true (entsG l i) [] [] = false := by
            rw [Bool.eq_false_iff]; intro h; apply hok
            rw [rightN, if_pos rfl] at h; simpa using h
          (apply o_callV (hs := node_PutN_no true (.slice Ak i ck) (.slice none 0 0) (.slice none 0 0) (entsG l i) [] [] hrn); (case hargs => (repeat first | exact evs.nil | (apply evs.cons; case a => rfl))); (case hpre => exact hpre (by (with_reducible repeat constructor))); (case hn => rfl))
          (apply Tri.op; rfl; apply o_move; rfl; rfl; apply Tri.op; rfl; apply o_extract; rfl; rfl; rfl; apply Tri.op; rfl; apply o_extract; rfl; rfl; rfl; apply Tri.op; rfl; apply o_assign; rfl; rfl; apply Tri.op; rfl; apply o_assign; rfl; rfl; refine Tri.nil (Tri.thenN (Tri.seq (Tri.seq (Tri.region ?_)))); apply Tri.op; rfl; apply o_move; rfl; rfl; apply Tri.op; rfl; apply o_neq; rfl; rfl; rfl; apply Tri.op; rfl; apply o_move; rfl; rfl)
          ((with_reducible apply Tri.setb 71 (true)); (case h => rfl); (case hi => rfl))
          ((iterate 4 apply Tri.opNo (c := true); (iterate 6 rfl)); apply Tri.op; rfl; apply o_pickT; (iterate 4 rfl); refine Tri.nil (Tri.thenN ?_); apply Tri.condT; rfl; rfl; refine Tri.seq (Tri.region ?_); apply Tri.op; rfl; apply o_build0; rfl; apply Tri.op; rfl)
          (apply o_storeAll (ys := ndLL false (.slice none 0 0) (.slice none 0 0) (.slice none 0 0)); (case hx => rfl); (case hy => rfl); (case p => (with_reducible repeat constructor)); (case hl => rfl); (case hc => rfl); (case h1 => exact ndLL_nil false none 0 0))
          (apply Tri.op; rfl; apply o_assign; rfl; rfl; refine Tri.nil (Tri.thenN (Tri.ret (Tri.thenR ?_))))
          (with_reducible apply Tri.ownNil 100 8)
          rw [hg]
          (apply Tri.fin; (case hr => rfl); (case h => exact ResL.cons ((Res1.agg rfl (by (with_reducible repeat constructor)) (by rw [List.drop_zero]; exact List.take_of_length_le (Nat.le_of_eq (ndLL_len false (.slice none 0 0) (.slice none 0 0) (.slice none 0 0)))) (ndLL_len false (.slice none 0 0) (.slice none 0 0) (.slice none 0 0)))) (ResL.cons (Res1.tmp rfl) (ResL.nil))); (apply fin_R (Hn := [own 100 8 (.slice none 0 0) 0 []])); (case p => exact (by (repeat first | with_reducible constructor | constructor))); exact ⟨none, 0, rfl, rfl⟩)
/-- what Get tells -/
structure GOT where
  leaf : Bool
  E : List ENT
  K : List KEY
  D : List Int
  e : Nat
def getN (isLeaf : Bool) (l : List UInt8) : GOT := if isLeaf then ⟨decide ((getL l).2 = 0), (getL l).1, [], [], (getL l).2⟩ else ⟨false, [], (getI l).1.1, (getI l).1.2, (getI l).2⟩
theorem node_GetN (isLeaf : Bool) (v : Value) (l : List UInt8) : SpecR Try.prog 54 #[.bool isLeaf, v] (fun w => RdW w v l.length (B8 l)) (fun r H' => ∃ A c B d C e, r = .tuple #[ndW (getN isLeaf l).leaf (.slice A (getN isLeaf l).E.length c) (.slice B (getN isLeaf l).K.length d) (.slice C (getN isLeaf l).D.length e), .int .i64 ((getN isLeaf l).e : Int)]
    ∧ H' = [own 100 8 (.slice A (getN isLeaf l).E.length c) (getN isLeaf l).E.length (EL (getN isLeaf l).E), own 98 2 (.slice B (getN isLeaf l).K.length d) (getN isLeaf l).K.length (KL (getN isLeaf l).K), own 3 1 (.slice C (getN isLeaf l).D.length e) (getN isLeaf l).D.length (NL (getN isLeaf l).D)]) := by
  cases isLeaf
  · refine SpecR.conv (node_Get_inner v l) (fun r H' h => ?_)
    obtain ⟨A, c, B, d, rfl, rfl⟩ := h
    exact ⟨_, ⟨none, 0, A, c, B, d, rfl, rfl⟩, fun w0 w H hw => St.pure1 (own_nil _ _) hw⟩
  · refine SpecR.conv (node_Get_leaf v l) (fun r H' h => ?_)
    obtain ⟨A, c, rfl, rfl⟩ := h
    exact ⟨_, ⟨A, c, none, 0, none, 0, rfl, rfl⟩, fun w0 w H hw => St.pure2 (own_nil _ _) (St.pure2 (own_nil _ _) hw)⟩
end Go.Proofs.Ytckdlfbbkemklaa
end
section
/- Maps of pages, as plain functions. -/
namespace Go.Gv

/-- pages and which are in use -/
structure BM where
  p : Int
  u : List Bool

def useAt (u : List Bool) (i : Nat) : Bool := u.getD i false
/-- what is asked of one page -/
def fitAt (m : BM) (i : Nat) : Bool := !(decide (i < 2) && !useAt m.u i || decide (m.p ≤ i) && useAt m.u i)
def rightM (m : BM) : Bool := decide (8 ≤ m.p) && decide (m.p ≤ 512) && (List.range 512).all (fitAt m)
def newM (p : Int) : BM := ⟨min (max p 8) 512, [true, true] ++ List.replicate 510 false⟩
def zeroM : BM := ⟨0, List.replicate 512 false⟩

/-- is page i taken in one of both? -/
def bothAt (m o : BM) (i : Nat) : Bool := useAt m.u i || useAt o.u i
/-- how many are free side by side up to page k -/
def runTo (m o : BM) : Nat → Nat
  | 0 => 0
  | k + 1 => if bothAt m o k then 0 else runTo m o k + 1
def alikeM (m o : BM) : Bool := rightM m && rightM o && decide (m.p = o.p)
/-- n pages from one on, turned -/
def setFrom (u : List Bool) (b : Bool) (at_ : Nat) : Nat → List Bool
  | 0 => u
  | k + 1 => (setFrom u b at_ k).set (at_ + k) b
theorem setFrom_length (u : List Bool) (b : Bool) (a : Nat) : ∀ k, (setFrom u b a k).length = u.length
  | 0 => rfl
  | k + 1 => by simp [setFrom, setFrom_length u b a k]
/-- the first place with n side by side, from page k on; 'f' pages are left -/
def seek (m o : BM) (n : Int) : Nat → Nat → Option Nat
  | 0, _ => none
  | f + 1, k => if (runTo m o (k + 1) : Int) = n then some (k + 1 - n.toNat) else seek m o n f (k + 1)
def takeM (m o : BM) (n : Int) : BM × Int × Nat :=
  if !alikeM m o || decide (n < 1) then (zeroM, 0, 1)
  else match seek m o n m.p.toNat 0 with
    | some at_ => (⟨m.p, setFrom m.u true at_ n.toNat⟩, at_, 0)
    | none => (zeroM, 0, 5)
theorem fit_all {m : BM} (h : ∀ j, j < 512 → fitAt m j = true) : (List.range 512).all (fitAt m) = true := List.all_eq_true.2 (fun j hj => h j (List.mem_range.1 hj))
theorem fit_none {m : BM} {i : Nat} (hi : i < 512) (h : fitAt m i = false) : (List.range 512).all (fitAt m) = false := by
  cases hh : (List.range 512).all (fitAt m)
  · rfl
  · rw [List.all_eq_true.1 hh i (List.mem_range.2 hi)] at h; cases h
end Go.Gv
end
section
/- bitmap: what its functions answer. -/
namespace Go.Proofs.Ytckdlfbbkemklaa
open Go Go.RowKit Go.Gv
set_option linter.unusedVariables false

def bmL (m : BM) : List Value := .int .i64 m.p :: m.u.map .bool
def bmV (m : BM) : Value := .agg (bmL m).toArray
theorem bmL_length (m : BM) (h : m.u.length = 512) : (bmL m).length = 513 := by simp [bmL, h]
theorem bmL_one (m : BM) : ∀ y ∈ bmL m, y.oneCell' = true := by
  intro y hy; simp [bmL] at hy; rcases hy with rfl | ⟨_, rfl⟩ | ⟨_, rfl⟩ <;> rfl
theorem useAt_get (u : List Bool) (i : Nat) (h : i < u.length) : (u.map Value.bool)[i]? = some (.bool (useAt u i)) := by
  simp [useAt, h]
theorem bmL_get (m : BM) (i : Nat) (h : i < m.u.length) : (bmL m)[i + 1]? = some (.bool (useAt m.u i)) := by
  rw [bmL, List.getElem?_cons_succ]; exact useAt_get m.u i h
theorem bmL_set (m : BM) (i : Nat) (b : Bool) : (bmL m).set (i + 1) (.bool b) = bmL ⟨m.p, m.u.set i b⟩ := by simp [bmL, List.map_set]
theorem bmL_zero : bmL zeroM = [.int .i64 0] ++ List.replicate 512 (.bool false) := by rw [bmL, zeroM, List.map_replicate]; rfl
theorem bmL_drop (m : BM) (h : m.u.length = 512) : ((bmL m).drop 1).take 512 = m.u.map .bool := by
  rw [bmL, List.drop_succ_cons, List.drop_zero, List.take_of_length_le (by simp [h])]

set_option maxHeartbeats 400000 in
theorem bm_Right (m : BM) (hm : m.u.length = 512) : SpecR Try.prog 98 #[bmV m] (fun _ => True) (fun r H' => r = .bool (rightM m) ∧ H' = []) := by
  refine SpecR.of (fun w _ => ?_)
  refine Calls.enter Try.func98 rfl rfl rfl (St.rebase w) ?_
  simp only [argSlots]
  (refine Tri.seq (Tri.region ?_); apply Tri.op; rfl)
  (first | (apply o_boxA; (case hx => rfl); (case hn => rfl); intro bt) | (apply o_box1; (case hx => rfl); (case h1 => rfl); (case hn => rfl); intro bt))
  (apply Tri.op; rfl; apply o_assign; rfl; rfl; refine Tri.nil (Tri.thenN (Tri.seq (Tri.seq (Tri.region ?_)))); apply Tri.op; rfl; apply o_fieldAddr; rfl; rfl; apply Tri.op; rfl; apply o_load; rfl; (with_reducible repeat constructor); rfl; rfl; apply Tri.op; rfl; apply o_lss; rfl; rfl; rfl; apply Tri.op; rfl; apply o_move; rfl; rfl)
  ((with_reducible apply Tri.casesB 8); (case h => rfl); (all_goals intro h8))
  · ((iterate 3 apply Tri.opNo (c := true); (iterate 6 rfl)); apply Tri.op; rfl; apply o_pickT; (iterate 4 rfl); refine Tri.nil (Tri.thenN ?_); apply Tri.condT; rfl; rfl; refine Tri.seq (Tri.region ?_); apply Tri.op; rfl; apply o_assign; rfl; rfl; refine Tri.nil (Tri.thenN (Tri.ret (Tri.thenR ?_))))
    (apply Tri.fin; (case hr => rfl); (case h => (repeat (first | exact ResL.nil | (apply ResL.cons; (case a => (first | exact Res1.tmp rfl | (apply Res1.cell; rfl; (with_reducible repeat constructor); rfl) | (apply Res1.agg; rfl; (with_reducible repeat constructor); rfl; rfl))))))); (apply fin_R (Hn := [])); (case p => (repeat first | with_reducible constructor | constructor)))
    exact ⟨by have h8' := of_decide_eq_true h8; simp only [tupled, rightM]; rw [decide_eq_false (show ¬ 8 ≤ m.p by omega)]; rfl, rfl⟩
  · have h8' := of_decide_eq_false h8
    (apply Tri.opYes; rfl; rfl; rfl; apply o_fieldAddr; rfl; rfl; apply Tri.opYes; rfl; rfl; rfl; apply o_load; rfl; (with_reducible repeat constructor); rfl; rfl; apply Tri.opYes; rfl; rfl; rfl; apply o_gtr; rfl; rfl; rfl; apply Tri.op; rfl; apply o_pickF; (iterate 4 rfl); refine Tri.nil (Tri.thenN ?_))
    (apply Tri.condD; (case hc => rfl); (all_goals intro h9))
    · (refine Tri.seq (Tri.region ?_); apply Tri.op; rfl; apply o_assign; rfl; rfl; refine Tri.nil (Tri.thenN (Tri.ret (Tri.thenR ?_))))
      (apply Tri.fin; (case hr => rfl); (case h => (repeat (first | exact ResL.nil | (apply ResL.cons; (case a => (first | exact Res1.tmp rfl | (apply Res1.cell; rfl; (with_reducible repeat constructor); rfl) | (apply Res1.agg; rfl; (with_reducible repeat constructor); rfl; rfl))))))); (apply fin_R (Hn := [])); (case p => (repeat first | with_reducible constructor | constructor)))
      exact ⟨by simp only [tupled, rightM]; rw [decide_eq_false (show ¬ m.p ≤ 512 by omega), Bool.and_false, Bool.false_and], rfl⟩
    · (refine Tri.skip (Tri.thenN (Tri.seq (Tri.seq (Tri.region ?_)))); apply Tri.op; rfl; apply o_fieldAddr; rfl; rfl; apply Tri.op; rfl)
      (apply o_loadAgg; (case hx => rfl); (case p => (with_reducible repeat constructor)); (case hv => exact bmL_drop m hm); (case hl => (rw [List.length_map]; exact hm)); (case hn => rfl))
      (apply Tri.op; rfl; apply o_move; rfl; rfl; refine Tri.nil (Tri.thenN (Tri.block ?_)))
      (apply Tri.loop (α := { i : Nat // i ≤ 512 ∧ ∀ j, j < i → fitAt m j = true }) (m := fun x => 512 - x.1) (Lx := fun x => [(1, .pointer (some ⟨bt, 0, none⟩)), (14, .agg (m.u.map Value.bool).toArray), (15, .int .i64 (x.1 : Int))]) (Hx := fun _ => [blk bt 149 (bmL m), Ex (hp w)]) (x0 := ⟨0, Nat.zero_le _, fun j hj => absurd hj (Nat.not_lt_zero j)⟩); (case hL => ((try dsimp only); (repeat (first | exact trivial | refine And.intro (by rfl) ?_)))); (case hH => ((try dsimp only); apply St.all; (repeat first | with_reducible constructor | constructor)))); (rintro ⟨i, hi, hf⟩ mx hmx; (try dsimp only at hmx ⊢))
      (refine Tri.seq (Tri.region ?_); apply Tri.op; rfl; apply o_lss; rfl; rfl; rfl; refine Tri.nil (Tri.thenN (Tri.seq ?_)))
      (apply Tri.condD; (case hc => rfl); (all_goals intro h))
      · have hi' : i < 512 := by omega
        (refine Tri.skip (Tri.thenN (Tri.seq (Tri.block (Tri.seq (Tri.region ?_))))); apply Tri.op; rfl; apply o_move; rfl; rfl; apply Tri.op; rfl)
        (apply o_index; (case hx => rfl); (case hy => rfl); (case hj => first | rfl | exact (Int.toNat_of_nonneg (by omega)).symm); (case hlt => first | omega | assumption); (case hv => exact useAt_get m.u i (by omega)); (case hn => rfl))
        (apply Tri.op; rfl; apply o_assign; rfl; rfl; apply Tri.op; rfl; apply o_assign; rfl; rfl; refine Tri.nil (Tri.thenN (Tri.seq (Tri.region ?_))); apply Tri.op; rfl; apply o_move; rfl; rfl; apply Tri.op; rfl; apply o_lss; rfl; rfl; rfl; apply Tri.op; rfl; apply o_move; rfl; rfl)
        have no : fitAt m i = false → rightM m = false := fun h0 => by rw [rightM, fit_none hi' h0, Bool.and_false]
        have yes : fitAt m i = true → ∀ j, j < i + 1 → fitAt m j = true := fun h0 j hj => by
          by_cases e : j = i
          · rw [e]; exact h0
          · exact hf j (by omega)
        ((with_reducible apply Tri.casesB 21); (case h => rfl); (all_goals intro h2))
        · have h2' := of_decide_eq_true h2
          (apply Tri.opYes; rfl; rfl; rfl; apply o_move; rfl; rfl; apply Tri.opYes; rfl; rfl; rfl; apply o_not; rfl; rfl; apply Tri.op; rfl; apply o_pickT; (iterate 4 rfl); apply Tri.op; rfl; apply o_move; rfl; rfl)
          ((with_reducible apply Tri.casesB 25); (case h => rfl); (all_goals intro h3))
          · ((iterate 5 apply Tri.opNo (c := true); (iterate 6 rfl)); apply Tri.opNoU; (iterate 4 rfl); apply Tri.opNo (c := true); (iterate 6 rfl); apply Tri.op; rfl; apply o_pickT; (iterate 4 rfl); refine Tri.nil (Tri.thenN ?_); apply Tri.condT; rfl; rfl; refine Tri.seq (Tri.region ?_); apply Tri.op; rfl; apply o_assign; rfl; rfl; refine Tri.nil (Tri.thenN (Tri.ret (Tri.blockR (Tri.thenR (Tri.thenR (Tri.blockR (Tri.thenR ?_))))))))
            (apply Tri.fin; (case hr => rfl); (case h => (repeat (first | exact ResL.nil | (apply ResL.cons; (case a => (first | exact Res1.tmp rfl | (apply Res1.cell; rfl; (with_reducible repeat constructor); rfl) | (apply Res1.agg; rfl; (with_reducible repeat constructor); rfl; rfl))))))); (apply fin_R (Hn := [])); (case p => (repeat first | with_reducible constructor | constructor)))
            exact ⟨by simp only [tupled]; rw [no (by unfold fitAt; rw [decide_eq_true (show i < 2 by omega), h3]; rfl)], rfl⟩
          · (apply Tri.opYes; rfl; rfl; rfl; apply o_move; rfl; rfl; apply Tri.opYes; rfl; rfl; rfl; apply o_fieldAddr; rfl; rfl; apply Tri.opYes; rfl; rfl; rfl; apply o_load; rfl; (with_reducible repeat constructor); rfl; rfl; apply Tri.opYes; rfl; rfl; rfl; apply o_geq; rfl; rfl; rfl; apply Tri.opYes; rfl; rfl; rfl; apply o_move; rfl; rfl)
            ((with_reducible apply Tri.setb 30 (false)); (case h => rfl); (case hi => exact decide_eq_false (by omega)))
            (apply Tri.opNo (c := false); (iterate 6 rfl); apply Tri.opYes; rfl; rfl; rfl; apply o_pickF; (iterate 4 rfl); apply Tri.op; rfl; apply o_pickF; (iterate 4 rfl); refine Tri.nil (Tri.thenN ?_); apply Tri.condF; rfl; rfl; refine Tri.skip (Tri.blockN (Tri.thenN (Tri.region ?_))); apply Tri.op; rfl; apply o_add64; rfl; rfl; rfl; (omega); apply Tri.op; rfl; apply o_move; rfl; rfl; refine Tri.nil (Tri.thenN ?_))
            ((with_reducible apply Tri.again (y := ⟨i + 1, by omega, yes (by unfold fitAt; rw [h3, decide_eq_false (show ¬ m.p ≤ (i : Int) by omega), Bool.and_false, Bool.false_and]; simp)⟩)); (case p => ((try dsimp only); (repeat (first | exact Pulls.nil | (apply Pulls.cons; (case a => (first | ((repeat (first | with_reducible exact Gv.Pull.head | with_reducible apply Gv.Pull.tail)); done) | (repeat (first | exact Gv.Pull.head | apply Gv.Pull.tail))))))))); (case hm => ((try dsimp only); omega)); (try dsimp only))
            (repeat (first | exact trivial | refine And.intro (by rfl) ?_))
        · have h2' := of_decide_eq_false h2
          ((iterate 2 apply Tri.opNo (c := false); (iterate 6 rfl)); apply Tri.op; rfl; apply o_pickF; (iterate 4 rfl); apply Tri.op; rfl; apply o_move; rfl; rfl; apply Tri.opYes; rfl; rfl; rfl; apply o_move; rfl; rfl; apply Tri.opYes; rfl; rfl; rfl; apply o_fieldAddr; rfl; rfl; apply Tri.opYes; rfl; rfl; rfl; apply o_load; rfl; (with_reducible repeat constructor); rfl; rfl; apply Tri.opYes; rfl; rfl; rfl; apply o_geq; rfl; rfl; rfl; apply Tri.opYes; rfl; rfl; rfl; apply o_move; rfl; rfl)
          ((with_reducible apply Tri.casesB 30); (case h => rfl); (all_goals intro h4))
          · (apply Tri.opYes; rfl; rfl; rfl; apply o_move; rfl; rfl; apply Tri.opYes; rfl; rfl; rfl; apply o_pickT; (iterate 4 rfl); apply Tri.op; rfl; apply o_pickF; (iterate 4 rfl); refine Tri.nil (Tri.thenN ?_))
            (apply Tri.cond; (case hc => rfl); (all_goals intro h5))
            · (refine Tri.seq (Tri.region ?_); apply Tri.op; rfl; apply o_assign; rfl; rfl; refine Tri.nil (Tri.thenN (Tri.ret (Tri.blockR (Tri.thenR (Tri.thenR (Tri.blockR (Tri.thenR ?_))))))))
              (apply Tri.fin; (case hr => rfl); (case h => (repeat (first | exact ResL.nil | (apply ResL.cons; (case a => (first | exact Res1.tmp rfl | (apply Res1.cell; rfl; (with_reducible repeat constructor); rfl) | (apply Res1.agg; rfl; (with_reducible repeat constructor); rfl; rfl))))))); (apply fin_R (Hn := [])); (case p => (repeat first | with_reducible constructor | constructor)))
              exact ⟨by simp only [tupled]; rw [no (by unfold fitAt; rw [decide_eq_true (of_decide_eq_true h4), h5, Bool.and_true, Bool.or_true]; rfl)], rfl⟩
            · (refine Tri.skip (Tri.blockN (Tri.thenN (Tri.region ?_))); apply Tri.op; rfl; apply o_add64; rfl; rfl; rfl; (omega); apply Tri.op; rfl; apply o_move; rfl; rfl; refine Tri.nil (Tri.thenN ?_))
              ((with_reducible apply Tri.again (y := ⟨i + 1, by omega, yes (by unfold fitAt; rw [decide_eq_false (show ¬ i < 2 by omega), h5, Bool.and_false]; simp)⟩)); (case p => ((try dsimp only); (repeat (first | exact Pulls.nil | (apply Pulls.cons; (case a => (first | ((repeat (first | with_reducible exact Gv.Pull.head | with_reducible apply Gv.Pull.tail)); done) | (repeat (first | exact Gv.Pull.head | apply Gv.Pull.tail))))))))); (case hm => ((try dsimp only); omega)); (try dsimp only))
              (repeat (first | exact trivial | refine And.intro (by rfl) ?_))
          · (apply Tri.opNo (c := false); (iterate 6 rfl); apply Tri.opYes; rfl; rfl; rfl; apply o_pickF; (iterate 4 rfl); apply Tri.op; rfl; apply o_pickF; (iterate 4 rfl); refine Tri.nil (Tri.thenN ?_); apply Tri.condF; rfl; rfl; refine Tri.skip (Tri.blockN (Tri.thenN (Tri.region ?_))); apply Tri.op; rfl; apply o_add64; rfl; rfl; rfl; (omega); apply Tri.op; rfl; apply o_move; rfl; rfl; refine Tri.nil (Tri.thenN ?_))
            ((with_reducible apply Tri.again (y := ⟨i + 1, by omega, yes (by unfold fitAt; rw [decide_eq_false (show ¬ i < 2 by omega), decide_eq_false (of_decide_eq_false h4)]; simp)⟩)); (case p => ((try dsimp only); (repeat (first | exact Pulls.nil | (apply Pulls.cons; (case a => (first | ((repeat (first | with_reducible exact Gv.Pull.head | with_reducible apply Gv.Pull.tail)); done) | (repeat (first | exact Gv.Pull.head | apply Gv.Pull.tail))))))))); (case hm => ((try dsimp only); omega)); (try dsimp only))
            (repeat (first | exact trivial | refine And.intro (by rfl) ?_))
      · ((with_reducible refine Tri.exit (Tri.thenE (Tri.thenE (Tri.blockE (Tri.thenN (Tri.seq (Tri.region ?_))))))); apply Tri.op; rfl; apply o_assign; rfl; rfl; refine Tri.nil (Tri.thenN (Tri.ret ?_)))
        have e : i = 512 := by omega
        subst e
        (apply Tri.fin; (case hr => rfl); (case h => (repeat (first | exact ResL.nil | (apply ResL.cons; (case a => (first | exact Res1.tmp rfl | (apply Res1.cell; rfl; (with_reducible repeat constructor); rfl) | (apply Res1.agg; rfl; (with_reducible repeat constructor); rfl; rfl))))))); (apply fin_R (Hn := [])); (case p => (repeat first | with_reducible constructor | constructor)))
        exact ⟨by simp only [tupled, rightM]; rw [decide_eq_true (show 8 ≤ m.p by omega), decide_eq_true (show m.p ≤ 512 by omega), fit_all hf]; rfl, rfl⟩
end Go.Proofs.Ytckdlfbbkemklaa
end
section
/- Maps of pages: plain laws. -/
namespace Go.Gv

theorem runTo_le (m o : BM) : ∀ k, runTo m o k ≤ k
  | 0 => Nat.le_refl _
  | k + 1 => by
    have := runTo_le m o k
    rw [runTo]; split <;> omega
theorem rightM_spec {m : BM} (h : rightM m = true) : 8 ≤ m.p ∧ m.p ≤ 512 ∧ ∀ j, j < 512 → fitAt m j = true := by
  simp only [rightM, Bool.and_eq_true, decide_eq_true_eq] at h
  exact ⟨h.1.1, h.1.2, fun j hj => List.all_eq_true.1 h.2 j (List.mem_range.2 hj)⟩
theorem alikeM_spec {m o : BM} (h : alikeM m o = true) : rightM m = true ∧ rightM o = true ∧ m.p = o.p := by
  simp only [alikeM, Bool.and_eq_true, decide_eq_true_eq] at h
  exact ⟨h.1.1, h.1.2, h.2⟩
theorem newM_length (p : Int) : (newM p).u.length = 512 := by
  show ([true, true] ++ List.replicate 510 false).length = 512
  rw [List.length_append, List.length_replicate]; rfl
theorem zeroM_length : zeroM.u.length = 512 := List.length_replicate
theorem takeM_length (m o : BM) (n : Int) (h : m.u.length = 512) : (takeM m o n).1.u.length = 512 := by
  unfold takeM
  split
  · exact zeroM_length
  · split
    · simp only [setFrom_length]; exact h
    · exact zeroM_length
end Go.Gv
end
section
/- bitmap: what its functions answer, further. -/
namespace Go.Proofs.Ytckdlfbbkemklaa
open Go Go.RowKit Go.Gv
set_option linter.unusedVariables false

set_option maxHeartbeats 400000 in
theorem bm_alike (m o : BM) (hm : m.u.length = 512) (ho : o.u.length = 512) : SpecR Try.prog 154 #[bmV m, bmV o] (fun _ => True) (fun r H' => r = .bool (alikeM m o) ∧ H' = []) := by
  refine SpecR.of (fun w _ => ?_)
  refine Calls.enter Try.func154 rfl rfl rfl (St.rebase w) ?_
  simp only [argSlots]
  (refine Tri.seq (Tri.region ?_); apply Tri.op; rfl)
  (first | (apply o_boxA; (case hx => rfl); (case hn => rfl); intro bm) | (apply o_box1; (case hx => rfl); (case h1 => rfl); (case hn => rfl); intro bm))
  (apply Tri.op; rfl)
  (first | (apply o_boxA; (case hx => rfl); (case hn => rfl); intro bo) | (apply o_box1; (case hx => rfl); (case h1 => rfl); (case hn => rfl); intro bo))
  (apply Tri.op; rfl; apply o_assign; rfl; rfl; refine Tri.nil (Tri.thenN (Tri.seq (Tri.region ?_))); apply Tri.op; rfl)
  (apply o_loadAll; (case hx => rfl); (case p => (with_reducible repeat constructor)); (case hl => exact bmL_length m hm); (case hn => rfl))
  (apply Tri.op; rfl)
  (apply o_callV (hs := bm_Right m hm); (case hargs => (repeat first | exact evs.nil | (apply evs.cons; case a => rfl))); (case hpre => exact fun _ _ => trivial); (case hn => rfl))
  (apply Tri.op; rfl; apply o_move; rfl; rfl)
  ((with_reducible apply Tri.casesB 7); (case h => rfl); (all_goals intro h1))
  · (apply Tri.opYes; rfl; rfl; rfl)
    (apply o_loadAll; (case hx => rfl); (case p => (with_reducible repeat constructor)); (case hl => exact bmL_length o ho); (case hn => rfl))
    (apply Tri.opYes; rfl; rfl; rfl)
    (apply o_callV (hs := bm_Right o ho); (case hargs => (repeat first | exact evs.nil | (apply evs.cons; case a => rfl))); (case hpre => exact fun _ _ => trivial); (case hn => rfl))
    (apply Tri.op; rfl; apply o_pickT; (iterate 4 rfl); apply Tri.op; rfl; apply o_move; rfl; rfl)
    ((with_reducible apply Tri.casesB 11); (case h => rfl); (all_goals intro h2))
    · (apply Tri.opYes; rfl; rfl; rfl; apply o_fieldAddr; rfl; rfl; apply Tri.opYes; rfl; rfl; rfl; apply o_load; rfl; (with_reducible repeat constructor); rfl; rfl; apply Tri.opYes; rfl; rfl; rfl; apply o_fieldAddr; rfl; rfl; apply Tri.opYes; rfl; rfl; rfl; apply o_load; rfl; (with_reducible repeat constructor); rfl; rfl; apply Tri.opYes; rfl; rfl; rfl; apply o_eql; rfl; rfl; rfl; apply Tri.op; rfl; apply o_pickT; (iterate 4 rfl); apply Tri.op; rfl; apply o_assign; rfl; rfl; refine Tri.nil (Tri.thenN (Tri.ret ?_)))
      (apply Tri.fin; (case hr => rfl); (case h => exact ResL.cons (Res1.tmp rfl) (ResL.nil)); (apply fin_R (Hn := [])); (case p => exact (by (repeat first | with_reducible constructor | constructor))); exact ⟨by simp only [tupled]; (rw [alikeM, h1, h2]; rfl), rfl⟩)
    · ((iterate 5 apply Tri.opNo (c := false); (iterate 6 rfl)); apply Tri.op; rfl; apply o_pickF; (iterate 4 rfl); apply Tri.op; rfl; apply o_assign; rfl; rfl; refine Tri.nil (Tri.thenN (Tri.ret ?_)))
      (apply Tri.fin; (case hr => rfl); (case h => exact ResL.cons (Res1.tmp rfl) (ResL.nil)); (apply fin_R (Hn := [])); (case p => exact (by (repeat first | with_reducible constructor | constructor))); exact ⟨by simp only [tupled]; (rw [alikeM, h1, h2]; rfl), rfl⟩)
  · ((iterate 2 apply Tri.opNo (c := false); (iterate 6 rfl)); apply Tri.op; rfl; apply o_pickF; (iterate 4 rfl); apply Tri.op; rfl; apply o_move; rfl; rfl; (iterate 5 apply Tri.opNo (c := false); (iterate 6 rfl)); apply Tri.op; rfl; apply o_pickF; (iterate 4 rfl); apply Tri.op; rfl; apply o_assign; rfl; rfl; refine Tri.nil (Tri.thenN (Tri.ret ?_)))
    (apply Tri.fin; (case hr => rfl); (case h => exact ResL.cons (Res1.tmp rfl) (ResL.nil)); (apply fin_R (Hn := [])); (case p => exact (by (repeat first | with_reducible constructor | constructor))); exact ⟨by simp only [tupled]; (rw [alikeM, h1]; rfl), rfl⟩)

theorem z513 : ([.int .i64 0] ++ List.replicate 512 (.bool false) : List Value).length = 513 := by rw [List.length_append, List.length_replicate]; rfl
theorem fill_first (place : Nat → Option (Nat × Nat)) (v : Int) (zs : List Value) (h : place 0 = some (0, 1)) : fillL place (.int .i64 0 :: zs) [(0, .int .i64 v)] = some (.int .i64 v :: zs) := by
  have e : Nat.ble 1 (zs.length + 1) = true := by rw [Nat.ble_eq]; omega
  simp [fillL, h, Value.cells, e]
theorem fill_map (p : Int) : fillL (fun i => [(0, 1), (1, 512)][i]?) ([.int .i64 0] ++ List.replicate 512 (.bool false)) [(0, .int .i64 p)] = some (bmL ⟨p, List.replicate 512 false⟩) := by
  rw [bmL, List.map_replicate, List.singleton_append]
  exact fill_first _ _ _ rfl

set_option maxHeartbeats 400000 in
theorem bm_New (p : Int) : SpecR Try.prog 67 #[.int .i64 p] (fun _ => True) (fun r H' => r = bmV (newM p) ∧ H' = []) := by
  refine SpecR.of (fun w _ => ?_)
  refine Calls.enter Try.func67 rfl rfl rfl (St.rebase w) ?_
  simp only [argSlots]
  (refine Tri.seq (Tri.region ?_); apply Tri.op; rfl)
  (apply o_alloc; (case hn => rfl); intro br)
  (refine Tri.nil (Tri.thenN (Tri.seq (Tri.region ?_))); apply Tri.op; rfl; apply o_move; rfl; rfl; apply Tri.op; rfl; apply o_max; rfl; rfl; rfl; apply Tri.op; rfl; apply o_min; rfl; rfl; rfl; apply Tri.op; rfl)
  (apply o_build; (case hp => (repeat first | exact pev.nil | (apply pev.cons; case a => rfl))); (case hf => exact fill_map _); (case hn => rfl))
  (apply Tri.op; rfl)
  (apply o_alloc; (case hn => rfl); intro bt)
  (apply Tri.op; rfl)
  (apply o_storeAll; (case hx => rfl); (case hy => rfl); (case p => (with_reducible repeat constructor)); (case hl => exact bmL_length _ List.length_replicate); (case hc => exact z513); (case h1 => exact bmL_one _))
  (refine Tri.nil (Tri.thenN (Tri.seq (Tri.seq (Tri.region ?_)))); apply Tri.op; rfl; apply o_move; rfl; rfl; refine Tri.nil (Tri.thenN (Tri.block ?_)))
  ((with_reducible apply Tri.eqA (A := blk bt _ _) (B := blk bt 149 (bmL ⟨min (max p 8) 512, List.replicate 0 true ++ List.replicate (512 - 0) false⟩))); (case p => (with_reducible repeat constructor)); (case e => (simp only [List.replicate_zero, List.nil_append, Nat.sub_zero])))
  (apply Tri.loop (α := { k : Nat // k ≤ 2 }) (m := fun x => 2 - x.1) (Lx := fun x => [(2, .pointer (some ⟨br, 0, none⟩)), (3, .pointer (some ⟨bt, 0, none⟩)), (9, .int .i64 (x.1 : Int))]) (Hx := fun x => [blk br 149 ([.int .i64 0] ++ List.replicate 512 (.bool false)), blk bt 149 (bmL ⟨min (max p 8) 512, List.replicate x.1 true ++ List.replicate (512 - x.1) false⟩), Ex (hp w)]) (x0 := ⟨0, Nat.zero_le _⟩); (case hL => ((try dsimp only); (repeat (first | exact trivial | refine And.intro (by rfl) ?_)))); (case hH => ((try dsimp only); apply St.all; (repeat first | with_reducible constructor | constructor)))); (rintro ⟨k, hk⟩ mx hmx; (try dsimp only at hmx ⊢))
  (refine Tri.seq (Tri.region ?_); apply Tri.op; rfl; apply o_lss; rfl; rfl; rfl; refine Tri.nil (Tri.thenN (Tri.seq ?_)))
  (apply Tri.condD; (case hc => rfl); (all_goals intro h))
  · have hk' : k < 2 := by omega
    have hlen : (List.replicate k true ++ List.replicate (512 - k) false).length = 512 := by simp; omega
    (refine Tri.skip (Tri.thenN (Tri.seq (Tri.block (Tri.seq (Tri.region ?_))))); apply Tri.op; rfl; apply o_move; rfl; rfl; apply Tri.op; rfl; apply o_assign; rfl; rfl; refine Tri.nil (Tri.thenN (Tri.region ?_)); apply Tri.op; rfl; apply o_move; rfl; rfl; apply Tri.op; rfl; apply o_fieldAddr; rfl; rfl; apply Tri.op; rfl; apply o_ixArr; rfl; rfl; (first | rfl | exact (Int.toNat_of_nonneg (by omega)).symm); (first | omega | assumption); rfl; apply Tri.op; rfl)
    (apply o_store; (case hx => rfl); (case hy => rfl); (case h1 => rfl); (case p => (with_reducible repeat constructor)); (case hi => (rw [bmL_length _ hlen]; omega)))
    have es : ((List.replicate k true ++ List.replicate (512 - k) false).set k true) = List.replicate (k + 1) true ++ List.replicate (512 - (k + 1)) false := by
      have : k = 0 ∨ k = 1 := by omega
      rcases this with rfl | rfl <;> rfl
    ((with_reducible apply Tri.eqA (A := blk bt _ _) (B := blk bt 149 (bmL ⟨min (max p 8) 512, List.replicate (k + 1) true ++ List.replicate (512 - (k + 1)) false⟩))); (case p => (with_reducible repeat constructor)); (case e => (rw [Nat.zero_add, Nat.mul_one, Nat.add_comm 1 k, bmL_set]; simp only [es])))
    (refine Tri.nil (Tri.blockN (Tri.thenN (Tri.region ?_))); apply Tri.op; rfl; apply o_add64; rfl; rfl; rfl; (omega); apply Tri.op; rfl; apply o_move; rfl; rfl; refine Tri.nil (Tri.thenN ?_))
    (apply Tri.again (y := ⟨k + 1, by omega⟩); (case p => ((try dsimp only); (repeat (first | exact Pulls.nil | (apply Pulls.cons; (case a => (first | ((repeat (first | with_reducible exact Gv.Pull.head | with_reducible apply Gv.Pull.tail)); done) | (repeat (first | exact Gv.Pull.head | apply Gv.Pull.tail))))))))); (case hm => ((try dsimp only); omega)); (try dsimp only))
    (repeat (first | exact trivial | refine And.intro (by rfl) ?_))
  · have e : k = 2 := by omega
    subst e
    ((with_reducible refine Tri.exit (Tri.thenE (Tri.thenE (Tri.blockE (Tri.thenN (Tri.seq (Tri.region ?_))))))); apply Tri.op; rfl)
    ((with_reducible apply Tri.eqA (A := blk bt _ _) (B := blk bt 149 (bmL (newM p)))); (case p => (with_reducible repeat constructor)); (case e => rfl))
    (apply o_loadAll; (case hx => rfl); (case p => (with_reducible repeat constructor)); (case hl => exact bmL_length _ (newM_length p)); (case hn => rfl))
    (apply Tri.op; rfl)
    (apply o_storeAll; (case hx => rfl); (case hy => rfl); (case p => (with_reducible repeat constructor)); (case hl => exact bmL_length _ (newM_length p)); (case hc => exact z513); (case h1 => exact bmL_one _))
    (refine Tri.nil (Tri.thenN (Tri.ret ?_)))
    (apply Tri.fin; (case hr => rfl); (case h => exact ResL.cons ((Res1.agg rfl (by (with_reducible repeat constructor)) (by rw [List.drop_zero]; exact List.take_of_length_le (Nat.le_of_eq (bmL_length _ (newM_length p)))) (bmL_length _ (newM_length p)))) (ResL.nil)); (apply fin_R (Hn := [])); (case p => exact (by (repeat first | with_reducible constructor | constructor))); exact ⟨by simp only [tupled]; rfl, rfl⟩)

end Go.Proofs.Ytckdlfbbkemklaa
end
section
/- bitmap.Take. -/
namespace Go.Proofs.Ytckdlfbbkemklaa
open Go Go.RowKit Go.Gv
set_option linter.unusedVariables false

theorem z_one : ∀ y ∈ ([.int .i64 0] ++ List.replicate 512 (.bool false) : List Value), y.oneCell' = true := by
  rw [← bmL_zero]; exact bmL_one zeroM
theorem off_get (m : BM) (i : Nat) (h : i < m.u.length) : (bmL m)[0 + 1 + i * 1]? = some (.bool (useAt m.u i)) := by
  rw [Nat.zero_add, Nat.mul_one, Nat.add_comm 1 i]; exact bmL_get m i h
theorem off_set (m : BM) (i : Nat) (b : Bool) : (bmL m).set (0 + 1 + i * 1) (.bool b) = bmL ⟨m.p, m.u.set i b⟩ := by
  rw [Nat.zero_add, Nat.mul_one, Nat.add_comm 1 i]; exact bmL_set m i b
theorem bmV_zero : bmV zeroM = .agg ([.int .i64 0] ++ List.replicate 512 (.bool false) : List Value).toArray := by rw [bmV, bmL_zero]

set_option maxHeartbeats 1000000 in
theorem bm_Take (m o : BM) (n : Int) (hm : m.u.length = 512) (ho : o.u.length = 512) : SpecR Try.prog 142 #[bmV m, bmV o, .int .i64 n] (fun _ => True) (fun r H' => r = .tuple #[bmV (takeM m o n).1, .int .i64 (takeM m o n).2.1, .int .i64 ((takeM m o n).2.2 : Int)] ∧ H' = []) := by
  refine SpecR.of (fun w _ => ?_)
  refine Calls.enter Try.func142 rfl rfl rfl (St.rebase w) ?_
  simp only [argSlots]
  (refine Tri.seq (Tri.region ?_); apply Tri.op; rfl)
  (first | (apply o_boxA; (case hx => rfl); (case hn => rfl); intro bm) | (apply o_box1; (case hx => rfl); (case h1 => rfl); (case hn => rfl); intro bm))
  (apply Tri.op; rfl)
  (first | (apply o_boxA; (case hx => rfl); (case hn => rfl); intro bo) | (apply o_box1; (case hx => rfl); (case h1 => rfl); (case hn => rfl); intro bo))
  (apply Tri.op; rfl)
  (apply o_alloc; (case hn => rfl); intro br)
  (apply Tri.op; rfl; apply o_assign; rfl; rfl; apply Tri.op; rfl; apply o_assign; rfl; rfl; refine Tri.nil (Tri.thenN (Tri.seq (Tri.seq (Tri.region ?_)))); apply Tri.op; rfl)
  (apply o_loadAll; (case hx => rfl); (case p => (with_reducible repeat constructor)); (case hl => exact bmL_length m hm); (case hn => rfl))
  (apply Tri.op; rfl)
  (apply o_loadAll; (case hx => rfl); (case p => (with_reducible repeat constructor)); (case hl => exact bmL_length o ho); (case hn => rfl))
  (apply Tri.op; rfl)
  (apply o_callV (hs := bm_alike m o hm ho); (case hargs => (repeat first | exact evs.nil | (apply evs.cons; case a => rfl))); (case hpre => exact fun _ _ => trivial); (case hn => rfl))
  (apply Tri.op; rfl; apply o_not; rfl; rfl; apply Tri.op; rfl; apply o_move; rfl; rfl)
  ((with_reducible apply Tri.casesB 17); (case h => rfl); (all_goals intro h1))
  · ((iterate 2 apply Tri.opNo (c := true); (iterate 6 rfl)); apply Tri.op; rfl; apply o_pickT; (iterate 4 rfl); refine Tri.nil (Tri.thenN ?_); apply Tri.condT; rfl; rfl; refine Tri.seq (Tri.region ?_); apply Tri.op; rfl; apply o_build0; rfl; apply Tri.op; rfl)
    (apply o_storeAll; (case hx => rfl); (case hy => rfl); (case p => (with_reducible repeat constructor)); (case hl => exact z513); (case hc => exact z513); (case h1 => exact z_one))
    (apply Tri.op; rfl; apply o_assign; rfl; rfl; apply Tri.op; rfl; apply o_assign; rfl; rfl; refine Tri.nil (Tri.thenN (Tri.ret (Tri.thenR ?_))))
    (apply Tri.fin; (case hr => rfl); (case h => exact ResL.cons ((Res1.agg rfl (by (with_reducible repeat constructor)) (by rw [List.drop_zero]; exact List.take_of_length_le (Nat.le_of_eq z513)) z513)) (ResL.cons (Res1.tmp rfl) (ResL.cons (Res1.tmp rfl) (ResL.nil)))); (apply fin_R (Hn := [])); (case p => exact (by (repeat first | with_reducible constructor | constructor))); exact ⟨by simp only [tupled]; (rw [takeM, h1, Bool.true_or, if_pos rfl, bmV_zero]; rfl), rfl⟩)
  · (apply Tri.opYes; rfl; rfl; rfl; apply o_move; rfl; rfl; apply Tri.opYes; rfl; rfl; rfl; apply o_lss; rfl; rfl; rfl; apply Tri.op; rfl; apply o_pickF; (iterate 4 rfl); refine Tri.nil (Tri.thenN ?_))
    (apply Tri.condD; (case hc => rfl); (all_goals intro h2))
    · (refine Tri.seq (Tri.region ?_); apply Tri.op; rfl; apply o_build0; rfl; apply Tri.op; rfl)
      (apply o_storeAll; (case hx => rfl); (case hy => rfl); (case p => (with_reducible repeat constructor)); (case hl => exact z513); (case hc => exact z513); (case h1 => exact z_one))
      (apply Tri.op; rfl; apply o_assign; rfl; rfl; apply Tri.op; rfl; apply o_assign; rfl; rfl; refine Tri.nil (Tri.thenN (Tri.ret (Tri.thenR ?_))))
      (apply Tri.fin; (case hr => rfl); (case h => exact ResL.cons ((Res1.agg rfl (by (with_reducible repeat constructor)) (by rw [List.drop_zero]; exact List.take_of_length_le (Nat.le_of_eq z513)) z513)) (ResL.cons (Res1.tmp rfl) (ResL.cons (Res1.tmp rfl) (ResL.nil)))); (apply fin_R (Hn := [])); (case p => exact (by (repeat first | with_reducible constructor | constructor))); exact ⟨by simp only [tupled]; (rw [takeM, h1, decide_eq_true h2, Bool.false_or, if_pos rfl, bmV_zero]; rfl), rfl⟩)
    · have hal := alikeM_spec (m := m) (o := o) (by cases hq : alikeM m o <;> simp [hq] at h1 ⊢)
      have hr := rightM_spec hal.1
      have ht : takeM m o n = match seek m o n m.p.toNat 0 with
          | some at_ => (⟨m.p, setFrom m.u true at_ n.toNat⟩, (at_ : Int), 0)
          | none => (zeroM, 0, 5) := by
        rw [takeM, h1, decide_eq_false h2, Bool.false_or, if_neg (by simp)]
        all_goals (cases seek m o n m.p.toNat 0 <;> rfl)
      (refine Tri.skip (Tri.thenN (Tri.seq (Tri.region ?_))); apply Tri.op; rfl; apply o_assign; rfl; rfl; refine Tri.nil (Tri.thenN (Tri.seq (Tri.seq (Tri.region ?_)))); apply Tri.op; rfl; apply o_fieldAddr; rfl; rfl; apply Tri.op; rfl; apply o_load; rfl; (with_reducible repeat constructor); rfl; rfl; apply Tri.op; rfl; apply o_move; rfl; rfl; refine Tri.nil (Tri.thenN (Tri.block ?_)))
      (apply Tri.loop (α := { i : Nat // i ≤ m.p.toNat ∧ seek m o n m.p.toNat 0 = seek m o n (m.p.toNat - i) i }) (m := fun x => m.p.toNat - x.1) (Lx := fun x => [(3, .pointer (some ⟨bm, 0, none⟩)), (4, .pointer (some ⟨bo, 0, none⟩)), (6, .pointer (some ⟨br, 0, none⟩)), (2, .int .i64 n), (23, .int .i64 m.p), (24, .int .i64 (x.1 : Int)), (9, .int .i64 (runTo m o x.1 : Int))]) (Hx := fun _ => [blk bm 149 (bmL m), blk bo 149 (bmL o), blk br 149 ([.int .i64 0] ++ List.replicate 512 (.bool false)), Ex (hp w)]) (x0 := ⟨0, Nat.zero_le _, rfl⟩); (case hL => ((try dsimp only); (repeat (first | exact trivial | refine And.intro (by rfl) ?_)))); (case hH => ((try dsimp only); apply St.all; (repeat first | with_reducible constructor | constructor)))); (rintro ⟨i, hi, hs⟩ mx hmx; (try dsimp only at hmx ⊢))
      (refine Tri.seq (Tri.region ?_); apply Tri.op; rfl; apply o_lss; rfl; rfl; rfl; refine Tri.nil (Tri.thenN (Tri.seq ?_)))
      (apply Tri.condD; (case hc => rfl); (all_goals intro h))
      · have hi' : i < m.p.toNat := by omega
        have hrl := runTo_le m o i
        have hf : m.p.toNat - i = (m.p.toNat - (i + 1)) + 1 := by omega
        (refine Tri.skip (Tri.thenN (Tri.seq (Tri.block (Tri.seq (Tri.region ?_))))); apply Tri.op; rfl; apply o_move; rfl; rfl; apply Tri.op; rfl; apply o_assign; rfl; rfl; refine Tri.nil (Tri.thenN (Tri.seq (Tri.seq (Tri.region ?_)))); apply Tri.op; rfl; apply o_move; rfl; rfl; apply Tri.op; rfl; apply o_fieldAddr; rfl; rfl; apply Tri.op; rfl; apply o_ixArr; rfl; rfl; (first | rfl | exact (Int.toNat_of_nonneg (by omega)).symm); (first | omega | assumption); rfl; apply Tri.op; rfl)
        (apply o_load; (case hx => rfl); (case p => (with_reducible repeat constructor)); (case hv => exact off_get m i (by omega)); (case hn => rfl))
        (apply Tri.op; rfl; apply o_move; rfl; rfl)
        ((with_reducible apply Tri.casesB 31); (case h => rfl); (all_goals intro h3))
        · have hru : runTo m o (i + 1) = 0 := by rw [runTo, bothAt, h3]; rfl
          ((iterate 4 apply Tri.opNo (c := true); (iterate 6 rfl)); apply Tri.op; rfl; apply o_pickT; (iterate 4 rfl); refine Tri.nil (Tri.thenN ?_); apply Tri.condT; rfl; rfl; refine Tri.seq (Tri.region ?_); apply Tri.op; rfl; apply o_assign; rfl; rfl; refine Tri.nil (Tri.thenN (Tri.exit (Tri.thenE (Tri.blockE (Tri.thenN (Tri.region ?_)))))); apply Tri.op; rfl; apply o_add64; rfl; rfl; rfl; (omega); apply Tri.op; rfl; apply o_move; rfl; rfl; refine Tri.nil (Tri.thenN ?_))
          ((with_reducible apply Tri.seti 9 ((runTo m o (i + 1) : Int))); (case h => rfl); (case hi => (rw [hru]; rfl)))
          ((with_reducible apply Tri.again (y := ⟨i + 1, by omega, by rw [hs, hf, seek, if_neg (by rw [hru]; omega)]⟩)); (case p => ((try dsimp only); (repeat (first | exact Pulls.nil | (apply Pulls.cons; (case a => (first | ((repeat (first | with_reducible exact Gv.Pull.head | with_reducible apply Gv.Pull.tail)); done) | (repeat (first | exact Gv.Pull.head | apply Gv.Pull.tail))))))))); (case hm => ((try dsimp only); omega)); (try dsimp only))
          (repeat (first | exact trivial | refine And.intro (by rfl) ?_))
        · (apply Tri.opYes; rfl; rfl; rfl; apply o_move; rfl; rfl; apply Tri.opYes; rfl; rfl; rfl; apply o_fieldAddr; rfl; rfl; apply Tri.opYes; rfl; rfl; rfl; apply o_ixArr; rfl; rfl; (first | rfl | exact (Int.toNat_of_nonneg (by omega)).symm); (first | omega | assumption); rfl; apply Tri.opYes; rfl; rfl; rfl)
          (apply o_load; (case hx => rfl); (case p => (with_reducible repeat constructor)); (case hv => exact off_get o i (by omega)); (case hn => rfl))
          (apply Tri.op; rfl; apply o_pickF; (iterate 4 rfl); refine Tri.nil (Tri.thenN ?_))
          (apply Tri.cond; (case hc => rfl); (all_goals intro h4))
          · have hru : runTo m o (i + 1) = 0 := by rw [runTo, bothAt, h4, Bool.or_true]; rfl
            (refine Tri.seq (Tri.region ?_); apply Tri.op; rfl; apply o_assign; rfl; rfl; refine Tri.nil (Tri.thenN (Tri.exit (Tri.thenE (Tri.blockE (Tri.thenN (Tri.region ?_)))))); apply Tri.op; rfl; apply o_add64; rfl; rfl; rfl; (omega); apply Tri.op; rfl; apply o_move; rfl; rfl; refine Tri.nil (Tri.thenN ?_))
            ((with_reducible apply Tri.seti 9 ((runTo m o (i + 1) : Int))); (case h => rfl); (case hi => (rw [hru]; rfl)))
            ((with_reducible apply Tri.again (y := ⟨i + 1, by omega, by rw [hs, hf, seek, if_neg (by rw [hru]; omega)]⟩)); (case p => ((try dsimp only); (repeat (first | exact Pulls.nil | (apply Pulls.cons; (case a => (first | ((repeat (first | with_reducible exact Gv.Pull.head | with_reducible apply Gv.Pull.tail)); done) | (repeat (first | exact Gv.Pull.head | apply Gv.Pull.tail))))))))); (case hm => ((try dsimp only); omega)); (try dsimp only))
            (repeat (first | exact trivial | refine And.intro (by rfl) ?_))
          · have hru : runTo m o (i + 1) = runTo m o i + 1 := by rw [runTo, bothAt, h3, h4]; rfl
            (refine Tri.skip (Tri.thenN (Tri.seq (Tri.region ?_))); apply Tri.op; rfl; apply o_move; rfl; rfl; apply Tri.op; rfl; apply o_add64; rfl; rfl; rfl; (omega); apply Tri.op; rfl; apply o_assign; rfl; rfl; refine Tri.nil (Tri.thenN (Tri.seq (Tri.region ?_))); apply Tri.op; rfl; apply o_move; rfl; rfl; apply Tri.op; rfl; apply o_move; rfl; rfl; apply Tri.op; rfl; apply o_eql; rfl; rfl; rfl; refine Tri.nil (Tri.thenN ?_))
            (apply Tri.condD; (case hc => rfl); (all_goals intro h5))
            · have hN : n.toNat = runTo m o i + 1 := by omega
              have hfound : seek m o n m.p.toNat 0 = some (i + 1 - n.toNat) := by rw [hs, hf, seek, if_pos (by rw [hru]; omega)]
              (refine Tri.seq (Tri.region ?_); apply Tri.op; rfl; apply o_move; rfl; rfl; apply Tri.op; rfl; apply o_add64; rfl; rfl; rfl; (omega); apply Tri.op; rfl; apply o_move; rfl; rfl; apply Tri.op; rfl; apply o_sub64; rfl; rfl; rfl; (omega); apply Tri.op; rfl; apply o_assign; rfl; rfl; refine Tri.nil (Tri.thenN (Tri.seq (Tri.seq (Tri.region ?_)))); apply Tri.op; rfl; apply o_move; rfl; rfl; apply Tri.op; rfl; apply o_assign; rfl; rfl; refine Tri.nil (Tri.thenN (Tri.block ?_)))
              ((with_reducible apply Tri.seti 12 (((i + 1 - n.toNat : Nat) : Int))); (case h => rfl); (case hi => omega))
              ((with_reducible apply Tri.seti 11 (((i + 1 - n.toNat : Nat) : Int))); (case h => rfl); (case hi => omega))
              ((with_reducible apply Tri.eqA (A := blk bm _ _) (B := blk bm 149 (bmL ⟨m.p, setFrom m.u true (i + 1 - n.toNat) 0⟩))); (case p => (with_reducible repeat constructor)); (case e => rfl))
              (apply Tri.loop (α := { x : Nat // x ≤ n.toNat }) (m := fun x => n.toNat - x.1) (Lx := fun x => [(3, .pointer (some ⟨bm, 0, none⟩)), (6, .pointer (some ⟨br, 0, none⟩)), (10, .int .i64 (i : Int)), (11, .int .i64 ((i + 1 - n.toNat : Nat) : Int)), (12, .int .i64 ((i + 1 - n.toNat + x.1 : Nat) : Int))]) (Hx := fun x => [blk bm 149 (bmL ⟨m.p, setFrom m.u true (i + 1 - n.toNat) x.1⟩), blk br 149 ([.int .i64 0] ++ List.replicate 512 (.bool false)), Ex (hp w)]) (x0 := ⟨0, Nat.zero_le _⟩); (case hL => ((try dsimp only); (repeat (first | exact trivial | refine And.intro (by rfl) ?_)))); (case hH => ((try dsimp only); apply St.all; (repeat first | with_reducible constructor | constructor)))); (rintro ⟨x, hx⟩ mx hmx; (try dsimp only at hmx ⊢))
              (refine Tri.seq (Tri.seq (Tri.region ?_)); apply Tri.op; rfl; apply o_move; rfl; rfl; apply Tri.op; rfl; apply o_move; rfl; rfl; apply Tri.op; rfl; apply o_leq; rfl; rfl; rfl; refine Tri.nil (Tri.thenN ?_))
              have hlen : (setFrom m.u true (i + 1 - n.toNat) x).length = 512 := by rw [setFrom_length]; exact hm
              (apply Tri.condD; (case hc => rfl); (all_goals intro h6))
              · have hx' : x < n.toNat := by omega
                (refine Tri.skip (Tri.thenN (Tri.seq (Tri.block (Tri.region ?_)))); apply Tri.op; rfl; apply o_move; rfl; rfl; apply Tri.op; rfl; apply o_fieldAddr; rfl; rfl; apply Tri.op; rfl; apply o_ixArr; rfl; rfl; (first | rfl | exact (Int.toNat_of_nonneg (by omega)).symm); (first | omega | assumption); rfl; apply Tri.op; rfl)
                (apply o_store; (case hx => rfl); (case hy => rfl); (case h1 => rfl); (case p => (with_reducible repeat constructor)); (case hi => (rw [bmL_length _ hlen]; omega)))
                ((with_reducible apply Tri.eqA (A := blk bm _ _) (B := blk bm 149 (bmL ⟨m.p, setFrom m.u true (i + 1 - n.toNat) (x + 1)⟩))); (case p => (with_reducible repeat constructor)); (case e => (rw [off_set]; rfl)))
                (refine Tri.nil (Tri.blockN (Tri.thenN (Tri.region ?_))); apply Tri.op; rfl; apply o_move; rfl; rfl; apply Tri.op; rfl; apply o_add64; rfl; rfl; rfl; (omega); apply Tri.op; rfl; apply o_assign; rfl; rfl; refine Tri.nil (Tri.thenN ?_))
                (apply Tri.again (y := ⟨x + 1, by omega⟩); (case p => ((try dsimp only); (repeat (first | exact Pulls.nil | (apply Pulls.cons; (case a => (first | ((repeat (first | with_reducible exact Gv.Pull.head | with_reducible apply Gv.Pull.tail)); done) | (repeat (first | exact Gv.Pull.head | apply Gv.Pull.tail))))))))); (case hm => ((try dsimp only); omega)); (try dsimp only))
                (repeat (first | exact trivial | refine And.intro (by rfl) ?_))
              · have e : x = n.toNat := by omega
                subst e
                ((with_reducible refine Tri.exit (Tri.thenE (Tri.thenE (Tri.blockE (Tri.thenN (Tri.seq (Tri.region ?_))))))); apply Tri.op; rfl)
                (apply o_loadAll; (case hx => rfl); (case p => (with_reducible repeat constructor)); (case hl => exact bmL_length _ hlen); (case hn => rfl))
                (apply Tri.op; rfl; apply o_move; rfl; rfl; apply Tri.op; rfl)
                (apply o_storeAll; (case hx => rfl); (case hy => rfl); (case p => (with_reducible repeat constructor)); (case hl => exact bmL_length _ hlen); (case hc => exact z513); (case h1 => exact bmL_one _))
                (apply Tri.op; rfl; apply o_assign; rfl; rfl; apply Tri.op; rfl; apply o_assign; rfl; rfl; refine Tri.nil (Tri.thenN (Tri.ret (Tri.blockR (Tri.thenR (Tri.thenR (Tri.blockR (Tri.thenR ?_))))))))
                (apply Tri.fin; (case hr => rfl); (case h => exact ResL.cons ((Res1.agg rfl (by (with_reducible repeat constructor)) (by rw [List.drop_zero]; exact List.take_of_length_le (Nat.le_of_eq (bmL_length _ hlen))) (bmL_length _ hlen))) (ResL.cons (Res1.tmp rfl) (ResL.cons (Res1.tmp rfl) (ResL.nil)))); (apply fin_R (Hn := [])); (case p => exact (by (repeat first | with_reducible constructor | constructor))); exact ⟨by simp only [tupled]; (rw [ht, hfound]; rfl), rfl⟩)
            · (refine Tri.skip (Tri.blockN (Tri.thenN (Tri.region ?_))); apply Tri.op; rfl; apply o_add64; rfl; rfl; rfl; (omega); apply Tri.op; rfl; apply o_move; rfl; rfl; refine Tri.nil (Tri.thenN ?_))
              ((with_reducible apply Tri.seti 9 ((runTo m o (i + 1) : Int))); (case h => rfl); (case hi => (rw [hru]; rfl)))
              ((with_reducible apply Tri.again (y := ⟨i + 1, by omega, by rw [hs, hf, seek, if_neg (by rw [hru]; omega)]⟩)); (case p => ((try dsimp only); (repeat (first | exact Pulls.nil | (apply Pulls.cons; (case a => (first | ((repeat (first | with_reducible exact Gv.Pull.head | with_reducible apply Gv.Pull.tail)); done) | (repeat (first | exact Gv.Pull.head | apply Gv.Pull.tail))))))))); (case hm => ((try dsimp only); omega)); (try dsimp only))
              (repeat (first | exact trivial | refine And.intro (by rfl) ?_))
      · have e : i = m.p.toNat := by omega
        subst e
        have hnone : seek m o n m.p.toNat 0 = none := by rw [hs, Nat.sub_self]; rfl
        ((with_reducible refine Tri.exit (Tri.thenE (Tri.thenE (Tri.blockE (Tri.thenN (Tri.seq (Tri.region ?_))))))); apply Tri.op; rfl; apply o_build0; rfl; apply Tri.op; rfl)
        (apply o_storeAll; (case hx => rfl); (case hy => rfl); (case p => (with_reducible repeat constructor)); (case hl => exact z513); (case hc => exact z513); (case h1 => exact z_one))
        (apply Tri.op; rfl; apply o_assign; rfl; rfl; apply Tri.op; rfl; apply o_assign; rfl; rfl; refine Tri.nil (Tri.thenN (Tri.ret ?_)))
        (apply Tri.fin; (case hr => rfl); (case h => exact ResL.cons ((Res1.agg rfl (by (with_reducible repeat constructor)) (by rw [List.drop_zero]; exact List.take_of_length_le (Nat.le_of_eq z513)) z513)) (ResL.cons (Res1.tmp rfl) (ResL.cons (Res1.tmp rfl) (ResL.nil)))); (apply fin_R (Hn := [])); (case p => exact (by (repeat first | with_reducible constructor | constructor))); exact ⟨by simp only [tupled]; (rw [ht, hnone, bmV_zero]; rfl), rfl⟩)
end Go.Proofs.Ytckdlfbbkemklaa
end
section
/- node: parts of lists that are held flat, in plain terms. -/
namespace Go.Proofs.Ytckdlfbbkemklaa
open Go Go.RowKit Go.Gv
set_option linter.unusedVariables false
set_option linter.unusedSimpArgs false

theorem flat_drop {α : Type} {f : α → List Value} {m : Nat} (hf : ∀ x, (f x).length = m) : ∀ (l : List α) (i : Nat), (l.flatMap f).drop (i * m) = (l.drop i).flatMap f
  | [], i => by simp
  | x :: l, 0 => by simp
  | x :: l, i + 1 => by
    have h := hf x
    rw [List.flatMap_cons, List.drop_succ_cons, ← flat_drop hf l i, Nat.add_mul, Nat.one_mul, Nat.add_comm, ← List.drop_drop, List.drop_left' h]
theorem flat_take {α : Type} {f : α → List Value} {m : Nat} (hf : ∀ x, (f x).length = m) : ∀ (l : List α) (i : Nat), (l.flatMap f).take (i * m) = (l.take i).flatMap f
  | [], i => by simp
  | x :: l, 0 => by simp
  | x :: l, i + 1 => by
    have h := hf x
    rw [List.flatMap_cons, List.take_succ_cons, List.flatMap_cons, ← flat_take hf l i, Nat.add_mul, Nat.one_mul, Nat.add_comm, List.take_append, h, List.take_of_length_le (by omega)]
    congr 2; omega
theorem flat_cut {α : Type} {f : α → List Value} {m : Nat} (hf : ∀ x, (f x).length = m) (l : List α) (lo hi : Nat) : ((l.flatMap f).drop (lo * m)).take ((hi - lo) * m) = ((l.drop lo).take (hi - lo)).flatMap f := by
  rw [flat_drop hf, flat_take hf]
theorem flat_len {α : Type} {f : α → List Value} {m : Nat} (hf : ∀ x, (f x).length = m) : ∀ l : List α, (l.flatMap f).length = l.length * m
  | [] => by simp
  | x :: l => by rw [List.flatMap_cons, List.length_append, hf x, flat_len hf l, List.length_cons, Nat.add_mul, Nat.one_mul, Nat.add_comm]
theorem flat_one {α : Type} {f : α → List Value} (hf : ∀ x, ∀ y ∈ f x, y.oneCell' = true) (l : List α) : ∀ y ∈ l.flatMap f, y.oneCell' = true := by
  intro y hy
  obtain ⟨x, _, hx⟩ := List.mem_flatMap.1 hy
  exact hf x y hx
theorem entL_len5 (e : ENT) : (entL e).length = 8 := rfl
theorem keyL_len5 (k : KEY) : (keyL k).length = 2 := rfl
theorem entL_one5 (e : ENT) : ∀ y ∈ entL e, y.oneCell' = true := by
  intro y hy
  simp only [entL, List.mem_cons, List.not_mem_nil, or_false] at hy
  rcases hy with rfl | rfl | rfl | rfl | rfl | rfl | rfl | rfl <;> rfl
theorem keyL_one5 (k : KEY) : ∀ y ∈ keyL k, y.oneCell' = true := by
  intro y hy
  simp only [keyL, List.mem_cons, List.not_mem_nil, or_false] at hy
  rcases hy with rfl | rfl <;> rfl
theorem cutE {h : PH} {v : Value} {E : List ENT} {n : Nat} (hr : Rd h v n (EL E)) (lo hi : Nat) (h1 : lo ≤ hi) (h2 : hi ≤ n) : Rd h (subv v 8 lo hi) (hi - lo) (EL ((E.drop lo).take (hi - lo))) := by
  have q := hr.subv (size := 8) h1 h2
  rw [show ((EL E).drop (lo * 8)).take ((hi - lo) * 8) = EL ((E.drop lo).take (hi - lo)) from flat_cut entL_len5 E lo hi] at q
  exact q
theorem cutK {h : PH} {v : Value} {K : List KEY} {n : Nat} (hr : Rd h v n (KL K)) (lo hi : Nat) (h1 : lo ≤ hi) (h2 : hi ≤ n) : Rd h (subv v 2 lo hi) (hi - lo) (KL ((K.drop lo).take (hi - lo))) := by
  have q := hr.subv (size := 2) h1 h2
  rw [show ((KL K).drop (lo * 2)).take ((hi - lo) * 2) = KL ((K.drop lo).take (hi - lo)) from flat_cut keyL_len5 K lo hi] at q
  exact q
theorem cutD {h : PH} {v : Value} {D : List Int} {n : Nat} (hr : Rd h v n (NL D)) (lo hi : Nat) (h1 : lo ≤ hi) (h2 : hi ≤ n) : Rd h (subv v 1 lo hi) (hi - lo) (NL ((D.drop lo).take (hi - lo))) := by
  have q := hr.subv (size := 1) h1 h2
  rw [Nat.mul_one, Nat.mul_one, show ((NL D).drop lo).take (hi - lo) = NL ((D.drop lo).take (hi - lo)) by simp [NL, List.map_take, List.map_drop]] at q
  exact q
theorem NL_one5 (D : List Int) : ∀ y ∈ NL D, y.oneCell' = true := by
  intro y hy
  obtain ⟨x, _, rfl⟩ := List.mem_map.1 hy
  rfl
theorem NL_len (D : List Int) : (NL D).length = D.length := by simp [NL]
/-- a part of a node -/
def cutL {α : Type} (l : List α) (lo hi : Nat) : List α := (l.drop lo).take (hi - lo)
theorem cutL_len {α : Type} (l : List α) (lo hi : Nat) (h2 : hi ≤ l.length) : (cutL l lo hi).length = hi - lo := by
  unfold cutL
  rw [List.length_take, List.length_drop]; omega
end Go.Proofs.Ytckdlfbbkemklaa
end
section
/- node: the reference: key, Less, RightEntry, Right. -/
namespace Go.Proofs.Ytckdlfbbkemklaa
open Go Go.RowKit Go.Gv
set_option linter.unusedVariables false
set_option linter.unusedSimpArgs false

theorem EL_at (F : List ENT) (k : Nat) (h : k < F.length) (j : Nat) (hj : j < 8) : (EL F)[k * 8 + j]? = (entL (F.getD k ent0))[j]? := by
  rw [← EL_eight F k h, List.getElem?_take, if_pos hj, List.getElem?_drop]
theorem EL_k1 (F : List ENT) (k : Nat) (h : k < F.length) : (EL F)[k * 8 + 0]? = some (.int .i64 (F.getD k ent0).key.1) := EL_at F k h 0 (by omega)
theorem EL_k2 (F : List ENT) (k : Nat) (h : k < F.length) : (EL F)[k * 8 + 1]? = some (.int .i64 (F.getD k ent0).key.2) := EL_at F k h 1 (by omega)
theorem EL_fin (F : List ENT) (k : Nat) (h : k < F.length) : (EL F)[k * 8 + 2]? = some (.int .i64 (F.getD k ent0).fin) := EL_at F k h 2 (by omega)
end Go.Proofs.Ytckdlfbbkemklaa
end
section
/- node: between the program's and the reference's. -/
namespace Go.Proofs.Ytckdlfbbkemklaa
open Go Go.RowKit Go.Gv
set_option linter.unusedVariables false
set_option linter.unusedSimpArgs false

set_option maxHeartbeats 1000000 in
theorem law12_Entry (e : ENT) : SpecR Try.prog 47 #[entV e] (fun _ => True) (fun r H' => r = entV e ∧ H' = []) := by
  refine SpecR.of (fun w _ => ?_)
  refine Calls.enter Try.func47 rfl rfl rfl (St.rebase w) ?_
  simp only [argSlots]
  (refine Tri.seq (Tri.region ?_); apply Tri.op; rfl)
  (first | (apply o_boxA; (case hx => rfl); (case hn => rfl); intro b1) | (apply o_box1; (case hx => rfl); (case h1 => rfl); (case hn => rfl); intro b1))
  (apply Tri.op; rfl)
  (apply o_alloc; (case hn => rfl); intro b2)
  (refine Tri.nil (Tri.thenN (Tri.seq (Tri.region ?_))); apply Tri.op; rfl; apply o_fieldAddr; rfl; rfl; apply Tri.op; rfl; apply o_fieldAddr; rfl; rfl; apply Tri.op; rfl; apply o_load; rfl; (focus (first | ((repeat (first | with_reducible exact Pull.head | with_reducible apply Pull.tail)); done) | (repeat (first | exact Pull.head | apply Pull.tail)))); rfl; rfl; apply Tri.op; rfl; apply o_fieldAddr; rfl; rfl; apply Tri.op; rfl; apply o_fieldAddr; rfl; rfl; apply Tri.op; rfl; apply o_load; rfl; (focus (first | ((repeat (first | with_reducible exact Pull.head | with_reducible apply Pull.tail)); done) | (repeat (first | exact Pull.head | apply Pull.tail)))); rfl; rfl; apply Tri.op; rfl)
  (apply o_build (ys := keyL e.key); (case hp => (repeat first | exact pev.nil | (apply pev.cons; case a => rfl))); (case hf => rfl); (case hn => rfl))
  (apply Tri.op; rfl; apply o_fieldAddr; rfl; rfl; apply Tri.op; rfl; apply o_load; rfl; (focus (first | ((repeat (first | with_reducible exact Pull.head | with_reducible apply Pull.tail)); done) | (repeat (first | exact Pull.head | apply Pull.tail)))); rfl; rfl; apply Tri.op; rfl; apply o_fieldAddr; rfl; rfl; apply Tri.op; rfl; apply o_load; rfl; (focus (first | ((repeat (first | with_reducible exact Pull.head | with_reducible apply Pull.tail)); done) | (repeat (first | exact Pull.head | apply Pull.tail)))); rfl; rfl; apply Tri.op; rfl; apply o_fieldAddr; rfl; rfl; apply Tri.op; rfl; apply o_load; rfl; (focus (first | ((repeat (first | with_reducible exact Pull.head | with_reducible apply Pull.tail)); done) | (repeat (first | exact Pull.head | apply Pull.tail)))); rfl; rfl; apply Tri.op; rfl; apply o_fieldAddr; rfl; rfl; apply Tri.op; rfl; apply o_load; rfl; (focus (first | ((repeat (first | with_reducible exact Pull.head | with_reducible apply Pull.tail)); done) | (repeat (first | exact Pull.head | apply Pull.tail)))); rfl; rfl; apply Tri.op; rfl; apply o_fieldAddr; rfl; rfl; apply Tri.op; rfl; apply o_load; rfl; (focus (first | ((repeat (first | with_reducible exact Pull.head | with_reducible apply Pull.tail)); done) | (repeat (first | exact Pull.head | apply Pull.tail)))); rfl; rfl; apply Tri.op; rfl; apply o_fieldAddr; rfl; rfl; apply Tri.op; rfl; apply o_load; rfl; (focus (first | ((repeat (first | with_reducible exact Pull.head | with_reducible apply Pull.tail)); done) | (repeat (first | exact Pull.head | apply Pull.tail)))); rfl; rfl; apply Tri.op; rfl)
  (apply o_build (ys := entL e); (case hp => (repeat first | exact pev.nil | (apply pev.cons; case a => rfl))); (case hf => rfl); (case hn => rfl))
  (apply Tri.op; rfl)
  (apply o_storeAll (ys := entL e); (case hx => rfl); (case hy => rfl); (case p => (first | ((repeat (first | with_reducible exact Pull.head | with_reducible apply Pull.tail)); done) | (repeat (first | exact Pull.head | apply Pull.tail)))); (case hl => rfl); (case hc => rfl); (case h1 => exact entL_one _))
  (refine Tri.nil (Tri.thenN (Tri.ret ?_)))
  (apply Tri.fin; (case hr => rfl); (case h => exact ResL.cons ((Res1.agg rfl (by (first | ((repeat (first | with_reducible exact Pull.head | with_reducible apply Pull.tail)); done) | (repeat (first | exact Pull.head | apply Pull.tail)))) (by rw [List.drop_zero]; exact List.take_of_length_le (Nat.le_of_eq (entL_len e))) (entL_len e))) (ResL.nil)); (apply fin_R (Hn := [])); (case p => exact (by (repeat (first | exact Pulls.nil | (apply Pulls.cons; (case a => (first | ((repeat (first | with_reducible exact Gv.Pull.head | with_reducible apply Gv.Pull.tail)); done) | (repeat (first | exact Gv.Pull.head | apply Gv.Pull.tail))))))))); exact ⟨rfl, rfl⟩)
set_option maxHeartbeats 1000000 in
theorem law12_Back (e : ENT) : SpecR Try.prog 42 #[entV e] (fun _ => True) (fun r H' => r = entV e ∧ H' = []) := by
  refine SpecR.of (fun w _ => ?_)
  refine Calls.enter Try.func42 rfl rfl rfl (St.rebase w) ?_
  simp only [argSlots]
  (refine Tri.seq (Tri.region ?_); apply Tri.op; rfl)
  (first | (apply o_boxA; (case hx => rfl); (case hn => rfl); intro b1) | (apply o_box1; (case hx => rfl); (case h1 => rfl); (case hn => rfl); intro b1))
  (apply Tri.op; rfl)
  (apply o_alloc; (case hn => rfl); intro b2)
  (refine Tri.nil (Tri.thenN (Tri.seq (Tri.region ?_))); apply Tri.op; rfl; apply o_fieldAddr; rfl; rfl; apply Tri.op; rfl; apply o_fieldAddr; rfl; rfl; apply Tri.op; rfl; apply o_load; rfl; (focus (first | ((repeat (first | with_reducible exact Pull.head | with_reducible apply Pull.tail)); done) | (repeat (first | exact Pull.head | apply Pull.tail)))); rfl; rfl; apply Tri.op; rfl; apply o_fieldAddr; rfl; rfl; apply Tri.op; rfl; apply o_fieldAddr; rfl; rfl; apply Tri.op; rfl; apply o_load; rfl; (focus (first | ((repeat (first | with_reducible exact Pull.head | with_reducible apply Pull.tail)); done) | (repeat (first | exact Pull.head | apply Pull.tail)))); rfl; rfl; apply Tri.op; rfl)
  (apply o_build (ys := keyL e.key); (case hp => (repeat first | exact pev.nil | (apply pev.cons; case a => rfl))); (case hf => rfl); (case hn => rfl))
  (apply Tri.op; rfl; apply o_fieldAddr; rfl; rfl; apply Tri.op; rfl; apply o_load; rfl; (focus (first | ((repeat (first | with_reducible exact Pull.head | with_reducible apply Pull.tail)); done) | (repeat (first | exact Pull.head | apply Pull.tail)))); rfl; rfl; apply Tri.op; rfl; apply o_fieldAddr; rfl; rfl; apply Tri.op; rfl; apply o_load; rfl; (focus (first | ((repeat (first | with_reducible exact Pull.head | with_reducible apply Pull.tail)); done) | (repeat (first | exact Pull.head | apply Pull.tail)))); rfl; rfl; apply Tri.op; rfl; apply o_fieldAddr; rfl; rfl; apply Tri.op; rfl; apply o_load; rfl; (focus (first | ((repeat (first | with_reducible exact Pull.head | with_reducible apply Pull.tail)); done) | (repeat (first | exact Pull.head | apply Pull.tail)))); rfl; rfl; apply Tri.op; rfl; apply o_fieldAddr; rfl; rfl; apply Tri.op; rfl; apply o_load; rfl; (focus (first | ((repeat (first | with_reducible exact Pull.head | with_reducible apply Pull.tail)); done) | (repeat (first | exact Pull.head | apply Pull.tail)))); rfl; rfl; apply Tri.op; rfl; apply o_fieldAddr; rfl; rfl; apply Tri.op; rfl; apply o_load; rfl; (focus (first | ((repeat (first | with_reducible exact Pull.head | with_reducible apply Pull.tail)); done) | (repeat (first | exact Pull.head | apply Pull.tail)))); rfl; rfl; apply Tri.op; rfl; apply o_fieldAddr; rfl; rfl; apply Tri.op; rfl; apply o_load; rfl; (focus (first | ((repeat (first | with_reducible exact Pull.head | with_reducible apply Pull.tail)); done) | (repeat (first | exact Pull.head | apply Pull.tail)))); rfl; rfl; apply Tri.op; rfl)
  (apply o_build (ys := entL e); (case hp => (repeat first | exact pev.nil | (apply pev.cons; case a => rfl))); (case hf => rfl); (case hn => rfl))
  (apply Tri.op; rfl)
  (apply o_storeAll (ys := entL e); (case hx => rfl); (case hy => rfl); (case p => (first | ((repeat (first | with_reducible exact Pull.head | with_reducible apply Pull.tail)); done) | (repeat (first | exact Pull.head | apply Pull.tail)))); (case hl => rfl); (case hc => rfl); (case h1 => exact entL_one _))
  (refine Tri.nil (Tri.thenN (Tri.ret ?_)))
  (apply Tri.fin; (case hr => rfl); (case h => exact ResL.cons ((Res1.agg rfl (by (first | ((repeat (first | with_reducible exact Pull.head | with_reducible apply Pull.tail)); done) | (repeat (first | exact Pull.head | apply Pull.tail)))) (by rw [List.drop_zero]; exact List.take_of_length_le (Nat.le_of_eq (entL_len e))) (entL_len e))) (ResL.nil)); (apply fin_R (Hn := [])); (case p => exact (by (repeat (first | exact Pulls.nil | (apply Pulls.cons; (case a => (first | ((repeat (first | with_reducible exact Gv.Pull.head | with_reducible apply Gv.Pull.tail)); done) | (repeat (first | exact Gv.Pull.head | apply Gv.Pull.tail))))))))); exact ⟨rfl, rfl⟩)
end Go.Proofs.Ytckdlfbbkemklaa
end
section
/- slices: Clone, for the elements of a node (printed by mkslices.py). -/
namespace Go.Proofs.Ytckdlfbbkemklaa
open Go Go.RowKit Go.Gv
set_option linter.unusedVariables false
set_option linter.unusedSimpArgs false

theorem slices_Cloneint (v : Value) (n : Nat) (xs : List Value) (hl : xs.length = n * 1) (h1 : ∀ y ∈ xs, y.oneCell' = true) (hb : n ≤ 5000000) : SpecR Try.prog 81 #[v] (fun w => RdW w v n xs) (fun r H' => H' = [own 3 1 r n xs]) := by
  refine SpecR.of (fun w hr => ?_)
  refine Calls.enter Try.func81 rfl rfl rfl (St.rebase w) ?_
  simp only [argSlots]
  (refine Tri.seq (Tri.region ?_); apply Tri.op; rfl; apply o_assign; rfl; rfl; refine Tri.nil (Tri.thenN (Tri.seq (Tri.seq (Tri.region ?_)))); apply Tri.op; rfl; apply o_move; rfl; rfl; apply Tri.op; rfl)
  (apply o_eqlSN; (case hx => rfl); (case hy => rfl); (case hr => exact rdw_ex (by (with_reducible repeat constructor)) hr); (case hn => rfl))
  intro b hbl
  cases b
  · (refine Tri.nil (Tri.thenN ?_); apply Tri.condF; rfl; rfl; refine Tri.skip (Tri.thenN (Tri.seq (Tri.region ?_))); apply Tri.op; rfl)
    (apply o_litSl (ys := []); (case hp => (repeat first | exact pev.nil | (apply pev.cons; case a => rfl))); (case hm => rfl); (case hf => rfl); (case hn => rfl); intro vr)
    (apply Tri.op; rfl; apply o_move; rfl; rfl; apply Tri.op; rfl)
    (apply o_append; (case hx => rfl); (case hy => rfl); (case p => (with_reducible repeat constructor)); (case hr => exact rdw_ex (by (with_reducible repeat constructor)) hr); (case hl => exact hl); (case h1 => exact h1); (case hb => omega); (case hn => rfl))
    intro v'
    (apply Tri.op; rfl; apply o_assign; rfl; rfl; refine Tri.nil (Tri.thenN (Tri.ret ?_)))
    ((with_reducible apply Tri.eqA (A := own 3 1 v' _ _) (B := own 3 1 v' n xs)); (case p => (with_reducible repeat constructor)); (case e => (rw [Nat.zero_add, List.nil_append])))
    (apply Tri.fin; (case hr => rfl); (case h => (repeat (first | exact ResL.nil | (apply ResL.cons; (case a => (first | exact Res1.tmp rfl | (apply Res1.cell; rfl; (with_reducible repeat constructor); rfl) | (apply Res1.agg; rfl; (with_reducible repeat constructor); rfl; rfl))))))); (apply fin_R (Hn := [own 3 1 v' n xs])); (case p => (repeat first | with_reducible constructor | constructor)))
    simp only [tupled]
  · have hx : xs = [] := hbl rfl
    subst hx
    obtain rfl : n = 0 := by simp at hl; omega
    (refine Tri.nil (Tri.thenN ?_); apply Tri.condT; rfl; rfl; refine Tri.seq (Tri.region ?_); apply Tri.op; rfl; apply o_assign; rfl; rfl; refine Tri.nil (Tri.thenN (Tri.ret (Tri.thenR ?_))))
    (with_reducible apply Tri.ownNil 3 1)
    (apply Tri.fin; (case hr => rfl); (case h => (repeat (first | exact ResL.nil | (apply ResL.cons; (case a => (first | exact Res1.tmp rfl | (apply Res1.cell; rfl; (with_reducible repeat constructor); rfl) | (apply Res1.agg; rfl; (with_reducible repeat constructor); rfl; rfl))))))); (apply fin_R (Hn := [own 3 1 (.slice none 0 0) 0 []])); (case p => (repeat first | with_reducible constructor | constructor)))
    rfl

theorem slices_CloneKey (v : Value) (n : Nat) (xs : List Value) (hl : xs.length = n * 2) (h1 : ∀ y ∈ xs, y.oneCell' = true) (hb : n ≤ 5000000) : SpecR Try.prog 80 #[v] (fun w => RdW w v n xs) (fun r H' => H' = [own 98 2 r n xs]) := by
  refine SpecR.of (fun w hr => ?_)
  refine Calls.enter Try.func80 rfl rfl rfl (St.rebase w) ?_
  simp only [argSlots]
  (refine Tri.seq (Tri.region ?_); apply Tri.op; rfl; apply o_assign; rfl; rfl; refine Tri.nil (Tri.thenN (Tri.seq (Tri.seq (Tri.region ?_)))); apply Tri.op; rfl; apply o_move; rfl; rfl; apply Tri.op; rfl)
  (apply o_eqlSN; (case hx => rfl); (case hy => rfl); (case hr => exact rdw_ex (by (with_reducible repeat constructor)) hr); (case hn => rfl))
  intro b hbl
  cases b
  · (refine Tri.nil (Tri.thenN ?_); apply Tri.condF; rfl; rfl; refine Tri.skip (Tri.thenN (Tri.seq (Tri.region ?_))); apply Tri.op; rfl)
    (apply o_litSl (ys := []); (case hp => (repeat first | exact pev.nil | (apply pev.cons; case a => rfl))); (case hm => rfl); (case hf => rfl); (case hn => rfl); intro vr)
    (apply Tri.op; rfl; apply o_move; rfl; rfl; apply Tri.op; rfl)
    (apply o_append; (case hx => rfl); (case hy => rfl); (case p => (with_reducible repeat constructor)); (case hr => exact rdw_ex (by (with_reducible repeat constructor)) hr); (case hl => exact hl); (case h1 => exact h1); (case hb => omega); (case hn => rfl))
    intro v'
    (apply Tri.op; rfl; apply o_assign; rfl; rfl; refine Tri.nil (Tri.thenN (Tri.ret ?_)))
    ((with_reducible apply Tri.eqA (A := own 98 2 v' _ _) (B := own 98 2 v' n xs)); (case p => (with_reducible repeat constructor)); (case e => (rw [Nat.zero_add, List.nil_append])))
    (apply Tri.fin; (case hr => rfl); (case h => (repeat (first | exact ResL.nil | (apply ResL.cons; (case a => (first | exact Res1.tmp rfl | (apply Res1.cell; rfl; (with_reducible repeat constructor); rfl) | (apply Res1.agg; rfl; (with_reducible repeat constructor); rfl; rfl))))))); (apply fin_R (Hn := [own 98 2 v' n xs])); (case p => (repeat first | with_reducible constructor | constructor)))
    simp only [tupled]
  · have hx : xs = [] := hbl rfl
    subst hx
    obtain rfl : n = 0 := by simp at hl; omega
    (refine Tri.nil (Tri.thenN ?_); apply Tri.condT; rfl; rfl; refine Tri.seq (Tri.region ?_); apply Tri.op; rfl; apply o_assign; rfl; rfl; refine Tri.nil (Tri.thenN (Tri.ret (Tri.thenR ?_))))
    (with_reducible apply Tri.ownNil 98 2)
    (apply Tri.fin; (case hr => rfl); (case h => (repeat (first | exact ResL.nil | (apply ResL.cons; (case a => (first | exact Res1.tmp rfl | (apply Res1.cell; rfl; (with_reducible repeat constructor); rfl) | (apply Res1.agg; rfl; (with_reducible repeat constructor); rfl; rfl))))))); (apply fin_R (Hn := [own 98 2 (.slice none 0 0) 0 []])); (case p => (repeat first | with_reducible constructor | constructor)))
    rfl

theorem slices_CloneEntry (v : Value) (n : Nat) (xs : List Value) (hl : xs.length = n * 8) (h1 : ∀ y ∈ xs, y.oneCell' = true) (hb : n ≤ 5000000) : SpecR Try.prog 79 #[v] (fun w => RdW w v n xs) (fun r H' => H' = [own 100 8 r n xs]) := by
  refine SpecR.of (fun w hr => ?_)
  refine Calls.enter Try.func79 rfl rfl rfl (St.rebase w) ?_
  simp only [argSlots]
  (refine Tri.seq (Tri.region ?_); apply Tri.op; rfl; apply o_assign; rfl; rfl; refine Tri.nil (Tri.thenN (Tri.seq (Tri.seq (Tri.region ?_)))); apply Tri.op; rfl; apply o_move; rfl; rfl; apply Tri.op; rfl)
  (apply o_eqlSN; (case hx => rfl); (case hy => rfl); (case hr => exact rdw_ex (by (with_reducible repeat constructor)) hr); (case hn => rfl))
  intro b hbl
  cases b
  · (refine Tri.nil (Tri.thenN ?_); apply Tri.condF; rfl; rfl; refine Tri.skip (Tri.thenN (Tri.seq (Tri.region ?_))); apply Tri.op; rfl)
    (apply o_litSl (ys := []); (case hp => (repeat first | exact pev.nil | (apply pev.cons; case a => rfl))); (case hm => rfl); (case hf => rfl); (case hn => rfl); intro vr)
    (apply Tri.op; rfl; apply o_move; rfl; rfl; apply Tri.op; rfl)
    (apply o_append; (case hx => rfl); (case hy => rfl); (case p => (with_reducible repeat constructor)); (case hr => exact rdw_ex (by (with_reducible repeat constructor)) hr); (case hl => exact hl); (case h1 => exact h1); (case hb => omega); (case hn => rfl))
    intro v'
    (apply Tri.op; rfl; apply o_assign; rfl; rfl; refine Tri.nil (Tri.thenN (Tri.ret ?_)))
    ((with_reducible apply Tri.eqA (A := own 100 8 v' _ _) (B := own 100 8 v' n xs)); (case p => (with_reducible repeat constructor)); (case e => (rw [Nat.zero_add, List.nil_append])))
    (apply Tri.fin; (case hr => rfl); (case h => (repeat (first | exact ResL.nil | (apply ResL.cons; (case a => (first | exact Res1.tmp rfl | (apply Res1.cell; rfl; (with_reducible repeat constructor); rfl) | (apply Res1.agg; rfl; (with_reducible repeat constructor); rfl; rfl))))))); (apply fin_R (Hn := [own 100 8 v' n xs])); (case p => (repeat first | with_reducible constructor | constructor)))
    simp only [tupled]
  · have hx : xs = [] := hbl rfl
    subst hx
    obtain rfl : n = 0 := by simp at hl; omega
    (refine Tri.nil (Tri.thenN ?_); apply Tri.condT; rfl; rfl; refine Tri.seq (Tri.region ?_); apply Tri.op; rfl; apply o_assign; rfl; rfl; refine Tri.nil (Tri.thenN (Tri.ret (Tri.thenR ?_))))
    (with_reducible apply Tri.ownNil 100 8)
    (apply Tri.fin; (case hr => rfl); (case h => (repeat (first | exact ResL.nil | (apply ResL.cons; (case a => (first | exact Res1.tmp rfl | (apply Res1.cell; rfl; (with_reducible repeat constructor); rfl) | (apply Res1.agg; rfl; (with_reducible repeat constructor); rfl; rfl))))))); (apply fin_R (Hn := [own 100 8 (.slice none 0 0) 0 []])); (case p => (repeat first | with_reducible constructor | constructor)))
    rfl

end Go.Proofs.Ytckdlfbbkemklaa
end
section
/- slices: Concat of two, for the elements of a node (printed by mkslices.py). -/
namespace Go.Proofs.Ytckdlfbbkemklaa
open Go Go.RowKit Go.Gv
set_option linter.unusedVariables false
set_option linter.unusedSimpArgs false
def s3 (a b : Nat) : Nat → Nat
  | 0 => 0
  | 1 => a
  | _ => a + b
def x3 {α : Type} (a b : List α) : Nat → List α
  | 0 => []
  | 1 => a
  | _ => a ++ b
end Go.Proofs.Ytckdlfbbkemklaa
end
section
/- node: part, Join. -/
namespace Go.Proofs.Ytckdlfbbkemklaa
open Go Go.RowKit Go.Gv
set_option linter.unusedVariables false
set_option linter.unusedSimpArgs false

theorem EL_ones (E : List ENT) : ∀ y ∈ EL E, y.oneCell' = true := flat_one entL_one5 E
theorem KL_ones (K : List KEY) : ∀ y ∈ KL K, y.oneCell' = true := flat_one keyL_one5 K
theorem EL_lens (E : List ENT) {n : Nat} (h : E.length = n) : (EL E).length = n * 8 := by rw [← h]; exact flat_len entL_len5 E
theorem KL_lens (K : List KEY) {n : Nat} (h : K.length = n) : (KL K).length = n * 2 := by rw [← h]; exact flat_len keyL_len5 K
theorem NL_lens (D : List Int) {n : Nat} (h : D.length = n) : (NL D).length = n * 1 := by rw [NL_len, h, Nat.mul_one]
theorem EL_app (a b : List ENT) : EL (a ++ b) = EL a ++ EL b := by simp [EL]
theorem KL_app (a b : List KEY) : KL (a ++ b) = KL a ++ KL b := by simp [KL]
theorem NL_app (a b : List Int) : NL (a ++ b) = NL a ++ NL b := by simp [NL]
end Go.Proofs.Ytckdlfbbkemklaa
end
section
/- node: a node that is split, in plain terms. -/
namespace Go.Proofs.Ytckdlfbbkemklaa
open Go Go.RowKit Go.Gv
set_option linter.unusedVariables false
set_option linter.unusedSimpArgs false

structure ND3 where
  E : List ENT
  K : List KEY
  D : List Int
end Go.Proofs.Ytckdlfbbkemklaa
end
section
/- Many texts that are read only: more of them. -/
namespace Go.Gv
open Go Go.RowKit
set_option linter.unusedVariables false
set_option linter.unusedSimpArgs false
section
variable {P : Program} {w0 : World} {n : NT} {L : Slots} {H H1 H2 : List Atom}
/-- an owned row of elements of any size is one more -/
theorem Tri.joinS {G : Act → World → Prop} {e : TypeId} {size m : Nat} {v : Value} {xs : List Value} {l : List (Value × Nat × List Value)} (pA : Pull H (manyRd l) H1) (pB : Pull H1 (own e size v m xs) H2) (k : Tri w0 G n L (manyRd (l ++ [(v, m, xs)]) :: H2)) : Tri w0 G n L H :=
  Tri.merge pA pB (fun w s1 s2 _ h1 h2 => manyRd_add w s1 s2 h1 (own_Rd h2)) k
/-- no text at all -/
theorem Tri.noneM {G : Act → World → Prop} (k : Tri w0 G n L (manyRd [] :: H)) : Tri w0 G n L H := Tri.pure_ (fun h => manyRd_nil h) k
end
end Go.Gv
end
section
/- node: Split. -/
namespace Go.Proofs.Ytckdlfbbkemklaa
open Go Go.RowKit Go.Gv
set_option linter.unusedVariables false
set_option linter.unusedSimpArgs false

/-- the nodes of a list, and what they hold -/
def NDL (leaf : Bool) (VS : List (Value × Value × Value)) : List Value := VS.flatMap fun v => ndLL leaf v.1 v.2.1 v.2.2
def RDS : List (Value × Value × Value) → List ND3 → List (Value × Nat × List Value)
  | v :: VS, x :: xs => (v.1, x.E.length, EL x.E) :: (v.2.1, x.K.length, KL x.K) :: (v.2.2, x.D.length, NL x.D) :: RDS VS xs
  | _, _ => []
theorem RDS_app : ∀ (V1 V2 : List (Value × Value × Value)) (x1 x2 : List ND3), V1.length = x1.length → RDS (V1 ++ V2) (x1 ++ x2) = RDS V1 x1 ++ RDS V2 x2
  | [], V2, [], x2, _ => rfl
  | v :: V1, V2, x :: x1, x2, h => by
    rw [List.cons_append, List.cons_append, RDS, RDS, RDS_app V1 V2 x1 x2 (by simpa using h)]
    rfl
theorem NDL_app (leaf : Bool) (a b : List (Value × Value × Value)) : NDL leaf (a ++ b) = NDL leaf a ++ NDL leaf b := by simp [NDL]
end Go.Proofs.Ytckdlfbbkemklaa
end
section
/- node: the parts of a node, one by one; Join in one. -/
namespace Go.Proofs.Ytckdlfbbkemklaa
open Go Go.RowKit Go.Gv
set_option linter.unusedVariables false
set_option linter.unusedSimpArgs false

theorem rds_at : ∀ (VS : List (Value × Value × Value)) (xs : List ND3) (i : Nat) (v : Value × Value × Value) (y : ND3), VS[i]? = some v → xs[i]? = some y →
    (v.1, y.E.length, EL y.E) ∈ RDS VS xs ∧ (v.2.1, y.K.length, KL y.K) ∈ RDS VS xs ∧ (v.2.2, y.D.length, NL y.D) ∈ RDS VS xs
  | [], _, _, _, _, h, _ => by simp at h
  | _ :: _, [], _, _, _, _, h => by simp at h
  | u :: VS, x :: xs, 0, v, y, h1, h2 => by
    simp at h1 h2
    subst h1; subst h2
    exact ⟨.head _, .tail _ (.head _), .tail _ (.tail _ (.head _))⟩
  | u :: VS, x :: xs, i + 1, v, y, h1, h2 => by
    obtain ⟨a, b, c⟩ := rds_at VS xs i v y (by simpa using h1) (by simpa using h2)
    exact ⟨.tail _ (.tail _ (.tail _ a)), .tail _ (.tail _ (.tail _ b)), .tail _ (.tail _ (.tail _ c))⟩
theorem NDL_at {leaf : Bool} : ∀ (VS : List (Value × Value × Value)) (i : Nat) (v : Value × Value × Value), VS[i]? = some v → ((NDL leaf VS).drop (i * 4)).take 4 = ndLL leaf v.1 v.2.1 v.2.2
  | [], _, _, h => by simp at h
  | u :: VS, 0, v, h => by simp at h; subst h; rfl
  | u :: VS, i + 1, v, h => by
    have : (NDL leaf (u :: VS)).drop ((i + 1) * 4) = (NDL leaf VS).drop (i * 4) := by
      show (ndLL leaf u.1 u.2.1 u.2.2 ++ NDL leaf VS).drop ((i + 1) * 4) = _
      rw [show (i + 1) * 4 = (ndLL leaf u.1 u.2.1 u.2.2).length + i * 4 by show _ = 4 + _; omega, List.drop_append, Nat.add_sub_cancel_left, List.drop_eq_nil_of_le (by omega), List.nil_append]
    rw [this]
    exact NDL_at VS i v (by simpa using h)
end Go.Proofs.Ytckdlfbbkemklaa
end
section
/- tree: views, in plain terms. -/
namespace Go.Proofs.Ytckdlfbbkemklaa
open Go Go.RowKit Go.Gv
set_option linter.unusedVariables false
set_option linter.unusedSimpArgs false

/-- a view: its disk, its generation, which pages are in use, and which were -/
structure VS where
  S : DS
  gen : Nat
  m : BM
  old : BM
def kindN (leaf : Bool) : UInt8 := if leaf then 76 else 73
/-- a node that is read -/
def rdN (S : DS) (a : Int) (leaf : Bool) : GOT := if (rdPg S a (kindN leaf)).2 = 0 then getN leaf (rdPg S a (kindN leaf)).1.b else ⟨false, [], [], [], (rdPg S a (kindN leaf)).2⟩
/-- a node that is written -/
def wrN (v : VS) (leaf : Bool) (x : ND3) : VS × Int × Nat :=
  if rightN leaf x.E x.K x.D = false then (v, 0, 1)
  else if (takeM v.m v.old 1).2.2 ≠ 0 then (v, 0, (takeM v.m v.old 1).2.2)
  else (⟨(wrPg v.S ⟨kindN leaf, (takeM v.m v.old 1).2.1, v.gen, putN leaf x.E x.K x.D⟩).1, v.gen, (takeM v.m v.old 1).1, v.old⟩, (takeM v.m v.old 1).2.1, (wrPg v.S ⟨kindN leaf, (takeM v.m v.old 1).2.1, v.gen, putN leaf x.E x.K x.D⟩).2)
/-- what is asked of a view -/
structure VS.ok (v : VS) : Prop where
  S : v.S.ok
  g : v.gen < 18446744073709551616
  m : v.m.u.length = 512
  o : v.old.u.length = 512
def viewL (d : Nat) (v : VS) : List Value := tabL ++ (.pointer (some ⟨d, 0, none⟩) :: .int .u64 (v.gen : Int) :: (bmL v.m ++ bmL v.old))
theorem bmL_len {m : BM} (h : m.u.length = 512) : (bmL m).length = 513 := by simp [bmL, h]
theorem viewL_len {d : Nat} {v : VS} (h : v.ok) : (viewL d v).length = 1284 := by
  simp only [viewL, List.length_append, List.length_cons, tabL_length, bmL_len h.m, bmL_len h.o]
theorem viewL_tab (d : Nat) (v : VS) : ((viewL d v).drop (0 + 0)).take 256 = tabL := by
  rw [List.drop_zero, viewL, List.take_left' tabL_length]
theorem viewL_at {d : Nat} {v : VS} (i : Nat) : (viewL d v)[256 + i]? = (Value.pointer (some ⟨d, 0, none⟩) :: .int .u64 (v.gen : Int) :: (bmL v.m ++ bmL v.old))[i]? := by
  rw [viewL, List.getElem?_append_right (by rw [tabL_length]; omega), tabL_length, Nat.add_sub_cancel_left]
theorem viewL_d (d : Nat) (v : VS) : (viewL d v)[0 + 256]? = some (.pointer (some ⟨d, 0, none⟩)) := viewL_at 0
theorem viewL_g (d : Nat) (v : VS) : (viewL d v)[0 + 257]? = some (.int .u64 (v.gen : Int)) := viewL_at 1
theorem viewL_drop (d : Nat) (v : VS) (i : Nat) : (viewL d v).drop (256 + i) = (Value.pointer (some ⟨d, 0, none⟩) :: .int .u64 (v.gen : Int) :: (bmL v.m ++ bmL v.old)).drop i := by
  rw [viewL, List.drop_append, List.drop_eq_nil_of_le (by rw [tabL_length]; omega), tabL_length, Nat.add_sub_cancel_left, List.nil_append]
theorem viewL_m {d : Nat} {v : VS} (h : v.ok) : ((viewL d v).drop (0 + 258)).take 513 = bmL v.m := by
  rw [show 0 + 258 = 256 + 2 by omega, viewL_drop]
  show (bmL v.m ++ bmL v.old).take 513 = _
  rw [List.take_left' (bmL_len h.m)]
theorem viewL_o {d : Nat} {v : VS} (h : v.ok) : ((viewL d v).drop (0 + 771)).take 513 = bmL v.old := by
  rw [show 0 + 771 = 256 + (2 + 513) by omega, viewL_drop]
  show ((bmL v.m ++ bmL v.old).drop 513).take 513 = _
  rw [List.drop_append, List.drop_eq_nil_of_le (by rw [bmL_len h.m]; omega), bmL_len h.m, Nat.sub_self, List.drop_zero, List.nil_append, List.take_of_length_le (by rw [bmL_len h.o]; omega)]
theorem viewL_set {d : Nat} {v : VS} (h : v.ok) (m' : BM) (S' : DS) : (viewL d v).take (0 + 258) ++ bmL m' ++ (viewL d v).drop (0 + 258 + 513) = viewL d ⟨S', v.gen, m', v.old⟩ := by
  have e1 : (viewL d v).take (0 + 258) = tabL ++ [.pointer (some ⟨d, 0, none⟩), .int .u64 (v.gen : Int)] := by
    rw [viewL, List.take_append, tabL_length, List.take_of_length_le (by rw [tabL_length]; omega)]
    rfl
  have e2 : (viewL d v).drop (0 + 258 + 513) = bmL v.old := by
    rw [show 0 + 258 + 513 = 256 + (2 + 513) by omega, viewL_drop]
    show (bmL v.m ++ bmL v.old).drop 513 = _
    rw [List.drop_append, List.drop_eq_nil_of_le (by rw [bmL_len h.m]; omega), bmL_len h.m, Nat.sub_self, List.drop_zero, List.nil_append]
  rw [e1, e2, viewL]
  simp only [List.append_assoc, List.cons_append, List.nil_append]
theorem wrPg_ok {S : DS} (h : S.ok) (q : PG) : (wrPg S q).1.ok := by
  rw [wrPg]; split
  · exact DS.wrs_ok _ _ h
  · exact h
theorem wrN_ok {v : VS} (h : v.ok) (leaf : Bool) (x : ND3) : (wrN v leaf x).1.ok := by
  rw [wrN]; split
  · exact h
  · split
    · exact h
    · exact ⟨wrPg_ok h.S _, h.g, takeM_length _ _ _ h.m, h.o⟩
theorem wrPg_len (S : DS) (q : PG) : (wrPg S q).1.W.length ≤ S.W.length + 4 := by
  rw [wrPg]; split
  · have := (DS.wrs_len (secs (putP q) 4) S (q.a * 4)).1
    rw [secs_length] at this
    exact this
  · exact Nat.le_add_right _ _
theorem wrN_len (v : VS) (leaf : Bool) (x : ND3) : (wrN v leaf x).1.S.W.length ≤ v.S.W.length + 4 := by
  rw [wrN]; split
  · exact Nat.le_add_right _ _
  · split
    · exact Nat.le_add_right _ _
    · exact wrPg_len _ _
end Go.Proofs.Ytckdlfbbkemklaa
end
section
/- tree: nodes that are written one by one, and the node above them, in plain terms. -/
namespace Go.Proofs.Ytckdlfbbkemklaa
open Go Go.RowKit Go.Gv
set_option linter.unusedVariables false
set_option linter.unusedSimpArgs false

/-- nodes that are written one by one: the view, where they stand, and the error at which it ended -/
def unGo (leaf : Bool) : VS → List ND3 → VS × List Int × Nat
  | v, [] => (v, [], 0)
  | v, x :: xs => if (wrN v leaf x).2.2 ≠ 0 then ((wrN v leaf x).1, [], (wrN v leaf x).2.2)
    else ((unGo leaf (wrN v leaf x).1 xs).1, (wrN v leaf x).2.1 :: (unGo leaf (wrN v leaf x).1 xs).2.1, (unGo leaf (wrN v leaf x).1 xs).2.2)
def least3 (leaf : Bool) (x : ND3) : KEY := leastN leaf x.E x.K
theorem unGo_snoc (leaf : Bool) : ∀ (xs : List ND3) (v : VS) (x : ND3), (unGo leaf v xs).2.2 = 0 →
    (unGo leaf v (xs ++ [x])).1 = (wrN (unGo leaf v xs).1 leaf x).1 ∧ (unGo leaf v (xs ++ [x])).2.2 = (wrN (unGo leaf v xs).1 leaf x).2.2 ∧
    ((wrN (unGo leaf v xs).1 leaf x).2.2 = 0 → (unGo leaf v (xs ++ [x])).2.1 = (unGo leaf v xs).2.1 ++ [(wrN (unGo leaf v xs).1 leaf x).2.1])
  | [], v, x, _ => by
    simp only [List.nil_append, unGo]
    split
    · rename_i h; exact ⟨rfl, rfl, fun q => absurd q h⟩
    · rename_i h
      have h' : (wrN v leaf x).2.2 = 0 := by omega
      exact ⟨rfl, h'.symm, fun _ => rfl⟩
  | y :: xs, v, x, h => by
    rw [unGo] at h
    split at h
    · rename_i q; exact absurd h q
    · rename_i q
      obtain ⟨h1, h2, h3⟩ := unGo_snoc leaf xs (wrN v leaf y).1 x h
      have e : unGo leaf v (y :: xs) = ((unGo leaf (wrN v leaf y).1 xs).1, (wrN v leaf y).2.1 :: (unGo leaf (wrN v leaf y).1 xs).2.1, (unGo leaf (wrN v leaf y).1 xs).2.2) := by rw [unGo, if_neg q]
      have e2 : unGo leaf v (y :: xs ++ [x]) = ((unGo leaf (wrN v leaf y).1 (xs ++ [x])).1, (wrN v leaf y).2.1 :: (unGo leaf (wrN v leaf y).1 (xs ++ [x])).2.1, (unGo leaf (wrN v leaf y).1 (xs ++ [x])).2.2) := by rw [List.cons_append, unGo, if_neg q]
      rw [e, e2]
      exact ⟨h1, h2, fun q => by show _ :: _ = _ :: _ ++ _; rw [h3 q]; rfl⟩
theorem unGo_stop (leaf : Bool) : ∀ (xs : List ND3) (v : VS) (zs : List ND3), (unGo leaf v xs).2.2 ≠ 0 → unGo leaf v (xs ++ zs) = unGo leaf v xs
  | [], v, zs, h => absurd rfl h
  | y :: xs, v, zs, h => by
    rw [unGo] at h
    rw [List.cons_append, unGo, unGo]
    split at h
    · rename_i q; rw [if_pos q, if_pos q]
    · rename_i q; rw [if_neg q, if_neg q, unGo_stop leaf xs _ zs h]
theorem unGo_ok (leaf : Bool) : ∀ (xs : List ND3) {v : VS}, v.ok → (unGo leaf v xs).1.ok
  | [], v, h => h
  | x :: xs, v, h => by
    rw [unGo]; split
    · exact wrN_ok h leaf x
    · exact unGo_ok leaf xs (wrN_ok h leaf x)
theorem unGo_len (leaf : Bool) : ∀ (xs : List ND3) (v : VS), (unGo leaf v xs).1.S.W.length ≤ v.S.W.length + 4 * xs.length
  | [], v => Nat.le_add_right _ _
  | x :: xs, v => by
    have h1 := wrN_len v leaf x
    have h2 := unGo_len leaf xs (wrN v leaf x).1
    have e : (x :: xs).length = xs.length + 1 := rfl
    rw [unGo, e]; split
    · show (wrN v leaf x).1.S.W.length ≤ _; omega
    · show (unGo leaf (wrN v leaf x).1 xs).1.S.W.length ≤ _; omega
theorem unGo_cnt (leaf : Bool) : ∀ (xs : List ND3) (v : VS), (unGo leaf v xs).2.2 = 0 → (unGo leaf v xs).2.1.length = xs.length
  | [], v, _ => rfl
  | x :: xs, v, h => by
    rw [unGo] at h ⊢
    split at h
    · rename_i q; exact absurd h q
    · rename_i q
      rw [if_neg q]
      show (_ :: _).length = _
      rw [List.length_cons, unGo_cnt leaf xs _ h]; rfl
/-- the node above nodes that are written -/
def unN (leaf : Bool) (v : VS) (xs : List ND3) : VS × ND3 × Nat :=
  ((unGo leaf v xs).1, if (unGo leaf v xs).2.2 = 0 then ⟨[], xs.map (least3 leaf), (unGo leaf v xs).2.1⟩ else ⟨[], [], []⟩, (unGo leaf v xs).2.2)
theorem unN_cnt {leaf : Bool} {v : VS} {xs : List ND3} (h : (unN leaf v xs).2.2 = 0) : (unN leaf v xs).2.1.E = [] ∧ (unN leaf v xs).2.1.K.length = xs.length ∧ (unN leaf v xs).2.1.D.length = xs.length := by
  have h' : (unGo leaf v xs).2.2 = 0 := h
  simp only [unN, if_pos h']
  exact ⟨trivial, List.length_map _, unGo_cnt leaf xs v h'⟩
/-- the nodes of a level: sixteen children each -/
def chN (x : ND3) (j : Nat) : ND3 := ⟨[], cutL x.K (j * 16) (min (j * 16 + 16) x.D.length), cutL x.D (j * 16) (min (j * 16 + 16) x.D.length)⟩
def chunkN (x : ND3) : List ND3 := (List.range ((x.D.length + 15) / 16)).map (chN x)
theorem chunkN_length (x : ND3) : (chunkN x).length = (x.D.length + 15) / 16 := by simp [chunkN]
theorem chunkN_take (x : ND3) {j : Nat} (h : j < (x.D.length + 15) / 16) : (chunkN x).take (j + 1) = (chunkN x).take j ++ [chN x j] := by
  rw [List.take_add_one, chunkN, List.getElem?_map, List.getElem?_range h]; rfl
theorem chunkN_E (x : ND3) : ∀ y ∈ chunkN x, ∀ e ∈ y.E, entR e := fun y hy e he => by
  obtain ⟨j, _, rfl⟩ := List.mem_map.1 hy
  cases he
/-- the root of a tree whose last level this is -/
def finN (leaf : Bool) (v : VS) (xs : List ND3) (h : Nat) : VS × (Int × Nat) × Nat :=
  if 5 < h then (v, (0, 0), 5) else ((wrN v leaf (xs.getD 0 ⟨[], [], []⟩)).1, ((wrN v leaf (xs.getD 0 ⟨[], [], []⟩)).2.1, h), (wrN v leaf (xs.getD 0 ⟨[], [], []⟩)).2.2)
/-- levels upon levels -/
def stN : Nat → Bool → VS → List ND3 → Nat → VS × (Int × Nat) × Nat
  | 0, leaf, v, xs, h => finN leaf v xs h
  | f + 1, leaf, v, xs, h => if xs.length ≤ 1 then finN leaf v xs h
    else if (unN leaf v xs).2.2 ≠ 0 then ((unN leaf v xs).1, (0, 0), (unN leaf v xs).2.2)
    else stN f false (unN leaf v xs).1 (chunkN (unN leaf v xs).2.1) (h + 1)
def stackN (v : VS) (xs : List ND3) : VS × (Int × Nat) × Nat := if xs.length = 0 then (v, (0, 0), 0) else stN xs.length true v xs 1
theorem stN_fin {f : Nat} {leaf : Bool} {v : VS} {xs : List ND3} {h : Nat} (hx : xs.length ≤ 1) : stN f leaf v xs h = finN leaf v xs h := by
  cases f with
  | zero => rfl
  | succ f => rw [stN, if_pos hx]
end Go.Proofs.Ytckdlfbbkemklaa
end
section
/- tree: the leaves of a tree that is loaded; loads, in plain terms. -/
namespace Go.Proofs.Ytckdlfbbkemklaa
open Go Go.RowKit Go.Gv
set_option linter.unusedVariables false
set_option linter.unusedSimpArgs false

def meetsE (a b : ENT) : Bool := decide (a.key.1 = b.key.1) && (decide (a.key.2 ≤ b.fin) && decide (b.key.2 ≤ a.fin))
/-- entries that may be loaded -/
def loadOk (l : List ENT) : Prop := (∀ i, i < l.length → entOk (l.getD i ent0) = true) ∧ (∀ i, 0 < i → i < l.length → lessK (l.getD (i - 1) ent0).key (l.getD i ent0).key = true ∧ meetsE (l.getD (i - 1) ent0) (l.getD i ent0) = false) ∧ ∀ e ∈ l, entR e
def leafN (l : List ENT) (j : Nat) : ND3 := ⟨cutL l (j * 7) (j * 7 + min 7 (l.length - j * 7)), [], []⟩
def leavesN (l : List ENT) : List ND3 := (List.range ((l.length + 6) / 7)).map (leafN l)
theorem leavesN_length (l : List ENT) : (leavesN l).length = (l.length + 6) / 7 := by simp [leavesN]
theorem leavesN_take (l : List ENT) {j : Nat} (h : j < (l.length + 6) / 7) : (leavesN l).take (j + 1) = (leavesN l).take j ++ [leafN l j] := by
  rw [List.take_add_one, leavesN, List.getElem?_map, List.getElem?_range h]; rfl
theorem leavesN_R {l : List ENT} (hR : ∀ e ∈ l, entR e) : ∀ x ∈ leavesN l, ∀ e ∈ x.E, entR e := fun x hx e he => by
  obtain ⟨j, _, rfl⟩ := List.mem_map.1 hx
  exact hR e (List.mem_of_mem_drop (List.mem_of_mem_take he))
/-- a view's Load of entries that may be loaded -/
def loadN (v : VS) (l : List ENT) : VS × (Int × Nat) × Nat := stackN v (leavesN l)
theorem one_right {e : ENT} (h : entOk e = true) : rightN true [e] [] [] = true := by
  have h1 : entAt [e] 0 = true := by
    show (entOk e && (decide (0 = 0) || _)) = true
    rw [h]; rfl
  have h2 : entsTo [e] 1 = true := by
    show (entsTo [e] 0 && entAt [e] 0) = true
    rw [h1]; rfl
  show (decide (([] : List KEY).length = 0) && (decide (([] : List Int).length = 0) && (entsTo [e] 1 && betw 1 1 7))) = true
  rw [h2]; rfl
theorem rd_cutE {h : PH} {A : Option Addr} {m c lo e : Nat} {l : List ENT} (hr : Rd h (.slice A m c) m (EL l)) (hl : l.length = m) (hk : lo + e ≤ m) (he : e ≤ 100) : Rd h (.slice (A.map (·.add (lo * 8))) e e) e (EL (cutL l lo (lo + e))) := by
  obtain ⟨A', c', hv, hc, h3⟩ := hr
  cases hv
  refine ⟨_, _, rfl, ⟨Nat.le_refl _, by unfold maxLen; omega⟩, fun j u hu => ?_⟩
  have hq : EL (cutL l lo (lo + e)) = ((EL l).drop (lo * 8)).take (e * 8) := by
    have := flat_cut (f := entL) entL_len5 l lo (lo + e)
    rw [Nat.add_sub_cancel_left] at this
    show (cutL l lo (lo + e)).flatMap entL = ((l.flatMap entL).drop (lo * 8)).take (e * 8)
    rw [this, cutL, Nat.add_sub_cancel_left]
  rw [hq, List.getElem?_take] at hu
  split at hu
  · rename_i hj
    rw [List.getElem?_drop] at hu
    obtain ⟨a, rfl, cs, T, fr, g1, g2, g3⟩ := h3 _ u hu
    refine ⟨a.add (lo * 8), rfl, cs, T, fr, ?_, ?_, ?_⟩
    · have hb : (a.add (lo * 8)).block = a.block := by unfold Addr.add; split <;> rfl
      rw [hb]; exact g1
    · rw [Addr.add_add]; exact g2
    · rw [Addr.add_add]; exact g3
  · cases hu
end Go.Proofs.Ytckdlfbbkemklaa
end
section
/- Pages of a disk, in plain terms. -/
namespace Go.Proofs.Ytckdlfbbkemklaa
open Go Go.RowKit Go.Gv
set_option linter.unusedVariables false
set_option linter.unusedSimpArgs false

theorem seg_same (n : Nat) (A : List UInt8) (i : Nat) (b : List UInt8) (hi : i * n + n ≤ A.length) (hb : b.length = n) : ((putAt A (i * n) b).drop (i * n)).take n = b := by
  unfold putAt
  rw [List.append_assoc, List.drop_append_of_le_length (by rw [List.length_take]; omega), List.drop_of_length_le (by rw [List.length_take]; omega), List.nil_append, List.take_left' hb]
theorem seg_other (n : Nat) (A : List UInt8) (i j : Nat) (b : List UInt8) (hi : i * n + n ≤ A.length) (hb : b.length = n) (hj : j ≠ i) : ((putAt A (i * n) b).drop (j * n)).take n = (A.drop (j * n)).take n := by
  apply List.ext_getElem?
  intro k
  rw [List.getElem?_take, List.getElem?_take]
  split
  · rename_i hk
    rw [List.getElem?_drop, List.getElem?_drop]
    unfold putAt
    have hlt : (A.take (i * n)).length = i * n := by rw [List.length_take]; omega
    by_cases hji : j < i
    · have : j * n + k < i * n := by
        have := Nat.mul_le_mul_right n (show j + 1 ≤ i from hji)
        rw [Nat.add_mul] at this; omega
      rw [List.append_assoc, List.getElem?_append_left (by omega), List.getElem?_take, if_pos this]
    · have : i * n + n ≤ j * n + k := by
        have := Nat.mul_le_mul_right n (show i + 1 ≤ j by omega)
        rw [Nat.add_mul] at this; omega
      rw [List.getElem?_append_right (by rw [List.length_append]; omega), List.getElem?_drop, List.length_append, hlt, hb]
      congr 1; omega
  · rfl
theorem pgAt_same (A : List UInt8) (i : Nat) (b : List UInt8) (hi : i * 256 + 256 ≤ A.length) (hb : b.length = 256) : pgAt (putAt A (i * 256) b) i = b := seg_same 256 A i b hi hb
theorem pgAt_other (A : List UInt8) (i j : Nat) (b : List UInt8) (hi : i * 256 + 256 ≤ A.length) (hb : b.length = 256) (hj : j ≠ i) : pgAt (putAt A (i * 256) b) j = pgAt A j := seg_other 256 A i j b hi hb hj
/-- a disk with power -/
def DS.on (S : DS) : Prop := S.ok ∧ S.off = false ∧ S.till = -1
theorem DS.wrs_page {S : DS} (h : S.on) (a : Nat) (b : List UInt8) (hb : b.length = 256) (ha : a * 256 + 256 ≤ S.A.length) :
    (S.wrs ((a : Int) * 4) (secs b 4)).2 = 0 ∧ (S.wrs ((a : Int) * 4) (secs b 4)).1.on ∧ (S.wrs ((a : Int) * 4) (secs b 4)).1.V = putAt S.V (a * 256) b ∧ (S.wrs ((a : Int) * 4) (secs b 4)).1.A = S.A ∧ (S.wrs ((a : Int) * 4) (secs b 4)).1.W.length ≤ S.W.length + 4 := by
  have h1 := DS.wrs_V h.1 (a * 4) b h.2.1 h.2.2 4 (by omega) (by omega)
  have h2 := DS.wrs_len (secs b 4) S ((a : Int) * 4)
  have e : ((a * 4 : Nat) : Int) = (a : Int) * 4 := by omega
  rw [e] at h1
  rw [secs_length] at h2
  refine ⟨h1.1, ⟨DS.wrs_ok _ _ h.1, h1.2.1, h1.2.2.1⟩, ?_, h2.2, h2.1⟩
  rw [h1.2.2.2, show a * 4 * 64 = a * 256 by omega, List.take_of_length_le (by omega)]
theorem rdE_page {S : DS} (h : S.on) (a : Nat) (ha : a * 256 + 256 ≤ S.A.length) : rdE S ((a : Int) * 4) 4 = 0 := by
  have := rdE_of (S := S) (a := a * 4) h.2.1 4 (by omega)
  rwa [show ((a * 4 : Nat) : Int) = (a : Int) * 4 by omega] at this
theorem rdPg_on {S : DS} (h : S.on) (a : Nat) (ha : a * 256 + 256 ≤ S.A.length) (kind : UInt8) : rdPg S (a : Int) kind = if (getP (pgAt S.V a)).2 = 0 ∧ (getP (pgAt S.V a)).1.a = (a : Int) ∧ (getP (pgAt S.V a)).1.k = kind then getP (pgAt S.V a) else (zeroP, 3) := by
  rw [rdPg, rdE_page h a ha, if_neg (by simp)]; rfl
/-- an empty disk -/
def DS.new (k : Nat) : DS := ⟨List.replicate (k * 256) 0, [], false, -1⟩
theorem DS.new_on (k : Nat) (h : k ≤ 512) : (DS.new k).on := ⟨⟨by show (List.replicate _ _).length ≤ _; simp; omega, by show -1 ≤ (-1 : Int) ∧ (-1 : Int) ≤ _; omega, fun x hx => by cases hx⟩, rfl, rfl⟩
theorem DS.new_ok (k : Nat) (h : k ≤ 512) : (DS.new k).ok := (DS.new_on k h).1
theorem DS.new_len (k : Nat) : (DS.new k).A.length = k * 256 := List.length_replicate
theorem disk_NewD (k : Nat) (h : 8 ≤ k ∧ k ≤ 512) : SpecR Try.prog 25 #[.int .i64 (k : Int)] (fun _ => True) (fun r H' => ∃ p, r = .tuple #[.pointer (some ⟨p, 0, none⟩), .int .i64 0] ∧ H' = [DSK p (DS.new k)]) := by
  refine SpecR.conv (disk_New k h) (fun r H' hr => ?_)
  obtain ⟨p, a, rfl, rfl⟩ := hr
  exact ⟨_, ⟨p, rfl, rfl⟩, fun w0 w H hw => dsk_close (S := DS.new k) (W := []) rfl hw⟩
end Go.Proofs.Ytckdlfbbkemklaa
end
section
/- layer 14's law: the entries that are loaded, in plain terms. -/
namespace Go.Proofs.Ytckdlfbbkemklaa
open Go Go.RowKit Go.Gv
set_option linter.unusedVariables false
set_option linter.unusedSimpArgs false

def bE (s i : Nat) : ENT := ⟨(((i / 30 : Nat) : Int), ((i % 30 * (s + 1) : Nat) : Int)), ((i % 30 * (s + 1) + i % (s + 1) : Nat) : Int), ((2 + i : Nat) : Int), 1, 1, 0, 0⟩
def bL (s k : Nat) : List ENT := (List.range k).map (bE s)
theorem bL_length (s k : Nat) : (bL s k).length = k := by simp [bL]
theorem bL_get {s k i : Nat} (h : i < k) : (bL s k).getD i ent0 = bE s i := by
  rw [List.getD_eq_getElem?_getD, bL, List.getElem?_map, List.getElem?_range h]; rfl
theorem bL_succ (s k : Nat) : bL s (k + 1) = bL s k ++ [bE s k] := by rw [bL, List.range_succ, List.map_append]; rfl
theorem bL_take {s k j : Nat} (h : j ≤ k) : (bL s k).take j = bL s j := by
  rw [bL, bL, ← List.map_take, List.take_range, Nat.min_eq_left h]
theorem bE_bounds {s i : Nat} (hs : s ≤ 8) : i % 30 * (s + 1) ≤ 261 ∧ i % (s + 1) ≤ 8 := by
  have h1 : i % 30 ≤ 29 := by omega
  have h2 : i % (s + 1) < s + 1 := Nat.mod_lt _ (by omega)
  have h3 : i % 30 * (s + 1) ≤ 29 * 9 := Nat.mul_le_mul h1 (by omega)
  omega
theorem bE_ok {s i : Nat} (hs : s ≤ 8) (hi : i ≤ 200) : entOk (bE s i) = true := by
  have hb := bE_bounds (i := i) hs
  have hq : i / 30 ≤ 6 := by omega
  have a1 : keyOk (bE s i).key = true := by
    show (decide ((0 : Int) ≤ ((i / 30 : Nat) : Int)) && decide (((i / 30 : Nat) : Int) ≤ 4294967295)) = true
    rw [decide_eq_true (by omega), decide_eq_true (by omega)]; rfl
  have a2 : decide ((bE s i).key.2 ≤ (bE s i).fin) = true := decide_eq_true (by
    show ((i % 30 * (s + 1) : Nat) : Int) ≤ ((i % 30 * (s + 1) + i % (s + 1) : Nat) : Int)
    generalize i % 30 * (s + 1) = x
    omega)
  have a3 : betw (bE s i).addr 2 511 = true := by
    show (decide ((2 : Int) ≤ ((2 + i : Nat) : Int)) && decide (((2 + i : Nat) : Int) ≤ 511)) = true
    rw [decide_eq_true (by omega), decide_eq_true (by omega)]; rfl
  have a4 : betw (bE s i).len 1 65535 = true := rfl
  have a5 : decide ((bE s i).addr + pagesE (bE s i).len ≤ 512) = true := decide_eq_true (by
    show ((2 + i : Nat) : Int) + (1 + 255) / 256 ≤ 512
    omega)
  have a6 : betw (bE s i).count 1 200 = true := rfl
  have a7 : betw (bE s i).codec 0 15 = true := rfl
  rw [entOk, a1, a2, a3, a4, a5, a6, a7]; rfl
theorem bE_R {s i : Nat} (hs : s ≤ 8) : entR (bE s i) := by
  have hb := bE_bounds (i := i) hs
  refine ⟨⟨?_, ?_⟩, ⟨?_, ?_⟩, ?_⟩ <;> simp only [bE] <;> omega
theorem less_of {a b : KEY} (h : a.1 < b.1 ∨ (a.1 = b.1 ∧ a.2 < b.2)) : lessK a b = true := by
  rw [lessK]
  rcases h with h | ⟨h1, h2⟩
  · rw [decide_eq_true h]; rfl
  · rw [decide_eq_true h1, decide_eq_true h2, Bool.true_and, Bool.or_true]
theorem meets_no {a b : ENT} (h : ¬ (a.key.1 = b.key.1 ∧ a.key.2 ≤ b.fin ∧ b.key.2 ≤ a.fin)) : meetsE a b = false := by
  rw [meetsE]
  by_cases h1 : a.key.1 = b.key.1
  · by_cases h2 : a.key.2 ≤ b.fin
    · rw [decide_eq_false (fun q => h ⟨h1, h2, q⟩), Bool.and_false, Bool.and_false]
    · rw [decide_eq_false h2, Bool.false_and, Bool.and_false]
  · rw [decide_eq_false h1, Bool.false_and]
theorem bE_next {s i : Nat} (hs : s ≤ 8) (hi : 0 < i) : lessK (bE s (i - 1)).key (bE s i).key = true ∧ meetsE (bE s (i - 1)) (bE s i) = false := by
  obtain ⟨j, rfl⟩ : ∃ j, i = j + 1 := ⟨i - 1, by omega⟩
  rw [Nat.add_sub_cancel]
  have hm : j % (s + 1) < s + 1 := Nat.mod_lt _ (by omega)
  have e1 : (bE s j).key.1 = ((j / 30 : Nat) : Int) := rfl
  have e2 : (bE s (j + 1)).key.1 = (((j + 1) / 30 : Nat) : Int) := rfl
  have e3 : (bE s j).key.2 = ((j % 30 * (s + 1) : Nat) : Int) := rfl
  have e4 : (bE s (j + 1)).key.2 = (((j + 1) % 30 * (s + 1) : Nat) : Int) := rfl
  have e5 : (bE s j).fin = ((j % 30 * (s + 1) + j % (s + 1) : Nat) : Int) := rfl
  by_cases h : j % 30 = 29
  · have h1 : (j + 1) / 30 = j / 30 + 1 := by omega
    exact ⟨less_of (.inl (by rw [e1, e2, h1]; omega)), meets_no (fun q => by have := q.1; rw [e1, e2, h1] at this; omega)⟩
  · have h1 : (j + 1) / 30 = j / 30 := by omega
    have h2 : (j + 1) % 30 = j % 30 + 1 := by omega
    rw [h2, Nat.add_mul, Nat.one_mul] at e4
    refine ⟨less_of (.inr ⟨by rw [e1, e2, h1], ?_⟩), meets_no (fun q => ?_)⟩
    · rw [e3, e4]
      generalize j % 30 * (s + 1) = x
      omega
    · have := q.2.2
      rw [e4, e5] at this
      generalize j % 30 * (s + 1) = x at *
      omega
theorem bL_ok {s k : Nat} (hs : s ≤ 8) (hk : k ≤ 200) : loadOk (bL s k) := by
  refine ⟨fun i hi => ?_, fun i h0 hi => ?_, fun e he => ?_⟩
  · rw [bL_length] at hi
    rw [bL_get hi]; exact bE_ok hs (by omega)
  · rw [bL_length] at hi
    rw [bL_get hi, bL_get (by omega)]; exact bE_next hs h0
  · obtain ⟨i, _, rfl⟩ := List.mem_map.1 he
    exact bE_R hs
/-- a view of a new disk of 200 pages -/
def v200 : VS := ⟨DS.new 200, 1, newM 200, newM 200⟩
theorem v200_ok : v200.ok := ⟨DS.new_ok 200 (by decide), by decide, newM_length 200, newM_length 200⟩
theorem v200_right : rightM v200.m = true := by decide +kernel
theorem v200_p : v200.m.p = ((v200.S.A.length / 256 : Nat) : Int) := by
  have : v200.S.A.length = 200 * 256 := DS.new_len 200
  rw [this]; rfl
end Go.Proofs.Ytckdlfbbkemklaa
end
section
/- walk: the entries below a node, and the nodes that are read for them, in plain terms. -/
namespace Go.Proofs.Ytckdlfbbkemklaa
open Go Go.RowKit Go.Gv
set_option linter.unusedVariables false
set_option linter.unusedSimpArgs false

/-- the entries below a node of that height -/
def wkE (S : DS) : Nat → Int → List ENT
  | 0, _ => []
  | h + 1, a => (rdN S a (decide (h = 0))).E ++ (rdN S a (decide (h = 0))).D.flatMap (wkE S h)
/-- how many nodes there are -/
def wkC (S : DS) : Nat → Int → Nat
  | 0, _ => 0
  | h + 1, a => 1 + ((rdN S a (decide (h = 0))).D.map (wkC S h)).sum
/-- how many nodes were read in a row of children when the k-th entry is told -/
def wkVL (E : Int → List ENT) (C : Int → Nat) (V : Int → Nat → Nat) : List Int → Nat → Nat
  | [], _ => 0
  | d :: ds, k => if k < (E d).length then V d k else C d + wkVL E C V ds (k - (E d).length)
/-- how many nodes were read when the k-th entry is told -/
def wkV (S : DS) : Nat → Int → Nat → Nat
  | 0, _, _ => 0
  | h + 1, a, k => 1 + if k < (rdN S a (decide (h = 0))).E.length then 0 else wkVL (wkE S h) (wkC S h) (wkV S h) (rdN S a (decide (h = 0))).D (k - (rdN S a (decide (h = 0))).E.length)
/-- all can be read -/
def wkG (S : DS) : Nat → Int → Prop
  | 0, _ => False
  | h + 1, a => (-1000000 ≤ a ∧ a ≤ 1000000) ∧ (rdN S a (decide (h = 0))).e = 0 ∧ (rdN S a (decide (h = 0))).E.length ≤ 1000 ∧ (rdN S a (decide (h = 0))).D.length ≤ 1000 ∧ ∀ k ∈ (rdN S a (decide (h = 0))).D, wkG S h k
theorem wk_at {E : Int → List ENT} : ∀ (D : List Int) (j k : Nat) (d : Int), D[j]? = some d → k < (E d).length → (D.flatMap E)[((D.take j).flatMap E).length + k]? = (E d)[k]?
  | [], _, _, _, h, _ => by simp at h
  | x :: D, 0, k, d, h, hk => by
    simp at h; subst h
    simp only [List.take_zero, List.flatMap_nil, List.length_nil, Nat.zero_add, List.flatMap_cons]
    rw [List.getElem?_append_left hk]
  | x :: D, j + 1, k, d, h, hk => by
    have ih := wk_at (E := E) D j k d (by simpa using h) hk
    simp only [List.take_succ_cons, List.flatMap_cons, List.length_append]
    rw [List.getElem?_append_right (by omega), show (E x).length + ((D.take j).flatMap E).length + k - (E x).length = ((D.take j).flatMap E).length + k by omega, ih]
theorem wkVL_at {E : Int → List ENT} {C : Int → Nat} {V : Int → Nat → Nat} : ∀ (D : List Int) (j k : Nat) (d : Int), D[j]? = some d → k < (E d).length →
    wkVL E C V D (((D.take j).flatMap E).length + k) = ((D.take j).map C).sum + V d k
  | [], _, _, _, h, _ => by simp at h
  | x :: D, 0, k, d, h, hk => by
    simp at h; subst h
    simp only [List.take_zero, List.flatMap_nil, List.length_nil, Nat.zero_add, wkVL, List.map_nil, List.sum_nil]
    rw [if_pos hk]
  | x :: D, j + 1, k, d, h, hk => by
    have ih := wkVL_at (E := E) (C := C) (V := V) D j k d (by simpa using h) hk
    simp only [List.take_succ_cons, List.flatMap_cons, List.length_append, List.map_cons, List.sum_cons, wkVL]
    rw [if_neg (by omega), show (E x).length + ((D.take j).flatMap E).length + k - (E x).length = ((D.take j).flatMap E).length + k by omega, ih]
    omega
theorem wk_take {E : Int → List ENT} {D : List Int} {j : Nat} {d : Int} (h : D[j]? = some d) : ((D.take (j + 1)).flatMap E).length = ((D.take j).flatMap E).length + (E d).length := by
  rw [List.take_add_one, h]; simp
theorem wk_stake {C : Int → Nat} {D : List Int} {j : Nat} {d : Int} (h : D[j]? = some d) : ((D.take (j + 1)).map C).sum = ((D.take j).map C).sum + C d := by
  rw [List.take_add_one, h]; simp
theorem wk_le {E : Int → List ENT} (D : List Int) (j : Nat) : ((D.take j).flatMap E).length ≤ (D.flatMap E).length := by
  conv => rhs; rw [← List.take_append_drop j D]
  rw [List.flatMap_append, List.length_append]; omega
theorem wk_sle {C : Int → Nat} (D : List Int) (j : Nat) : ((D.take j).map C).sum ≤ (D.map C).sum := by
  conv => rhs; rw [← List.take_append_drop j D]
  rw [List.map_append, List.sum_append]; omega
end Go.Proofs.Ytckdlfbbkemklaa
end
section
/- tree: a view of a disk of 200 pages, of which the first ones are taken: one node more. -/
namespace Go.Proofs.Ytckdlfbbkemklaa
open Go Go.RowKit Go.Gv
set_option linter.unusedVariables false
set_option linter.unusedSimpArgs false

def uC (c : Nat) : List Bool := List.replicate c true ++ List.replicate (512 - c) false
theorem useC (c i : Nat) : useAt (uC c) i = decide (i < c) := by
  unfold useAt uC
  rw [List.getD_eq_getElem?_getD]
  by_cases h : i < c
  · rw [List.getElem?_append_left (by simpa using h), List.getElem?_replicate, if_pos h, decide_eq_true h]; rfl
  · rw [List.getElem?_append_right (by simpa using h), List.getElem?_replicate, decide_eq_false h]
    split <;> rfl
theorem uC_two : newM 200 = ⟨200, uC 2⟩ := by
  have : uC 2 = [true, true] ++ List.replicate 510 false := rfl
  rw [this]; rfl
theorem uC_len {c : Nat} (h : c ≤ 512) : (uC c).length = 512 := by simp [uC]; omega
theorem rightC {c : Nat} (h2 : 2 ≤ c) (hc : c ≤ 200) : rightM ⟨200, uC c⟩ = true := by
  have hall : (List.range 512).all (fitAt ⟨200, uC c⟩) = true := fit_all (fun j hj => by
    unfold fitAt
    show (!(decide (j < 2) && !useAt (uC c) j || decide ((200 : Int) ≤ (j : Int)) && useAt (uC c) j)) = true
    rw [useC]
    by_cases h1 : j < c
    · rw [decide_eq_true h1, decide_eq_false (show ¬ (200 : Int) ≤ (j : Int) by omega)]
      simp
    · rw [decide_eq_false h1, decide_eq_false (show ¬ j < 2 by omega)]
      simp)
  show (decide ((8 : Int) ≤ 200) && decide ((200 : Int) ≤ 512) && _) = true
  rw [hall]; rfl
theorem runC {c : Nat} (h2 : 2 ≤ c) : ∀ j, j ≤ c → runTo ⟨200, uC c⟩ ⟨200, uC 2⟩ j = 0
  | 0, _ => rfl
  | j + 1, h => by
    rw [runTo, if_pos]
    unfold bothAt
    show (useAt (uC c) j || _) = true
    rw [useC, decide_eq_true (by omega)]; rfl
theorem runC1 {c : Nat} (h2 : 2 ≤ c) : runTo ⟨200, uC c⟩ ⟨200, uC 2⟩ (c + 1) = 1 := by
  rw [runTo, if_neg, runC h2 c (Nat.le_refl _)]
  unfold bothAt
  show ¬ (useAt (uC c) c || useAt (uC 2) c) = true
  rw [useC, useC, decide_eq_false (by omega), decide_eq_false (by omega)]; simp
theorem seekC {c : Nat} (h2 : 2 ≤ c) : ∀ (f k : Nat), k ≤ c → c < f + k → seek ⟨200, uC c⟩ ⟨200, uC 2⟩ 1 f k = some c
  | 0, k, h, hf => by omega
  | f + 1, k, h, hf => by
    rw [seek]
    by_cases hk : k = c
    · subst hk
      rw [runC1 h2, if_pos (by rfl)]
      simp
    · rw [runC h2 (k + 1) (by omega), if_neg (by simp), seekC h2 f (k + 1) (by omega) (by omega)]
theorem setC {c : Nat} (hc : c < 512) : (uC c).set c true = uC (c + 1) := by
  refine List.ext_getElem? (fun i => ?_)
  unfold uC
  rw [List.getElem?_set]
  by_cases h : c = i
  · subst h
    rw [if_pos rfl, if_pos (by simp; omega), List.getElem?_append_left (by simp), List.getElem?_replicate, if_pos (by omega)]
  · rw [if_neg h]
    by_cases h1 : i < c
    · rw [List.getElem?_append_left (by simpa using h1), List.getElem?_append_left (by simp; omega), List.getElem?_replicate, List.getElem?_replicate, if_pos h1, if_pos (by omega)]
    · rw [List.getElem?_append_right (by simp; omega), List.getElem?_append_right (by simp; omega), List.getElem?_replicate, List.getElem?_replicate]
      simp only [List.length_replicate]
      by_cases h3 : i < 512
      · rw [if_pos (by omega), if_pos (by omega)]
      · rw [if_neg (by omega), if_neg (by omega)]
theorem takeC {c : Nat} (h2 : 2 ≤ c) (hc : c < 200) : takeM ⟨200, uC c⟩ ⟨200, uC 2⟩ 1 = (⟨200, uC (c + 1)⟩, (c : Int), 0) := by
  have ha : alikeM ⟨200, uC c⟩ ⟨200, uC 2⟩ = true := by
    unfold alikeM
    rw [rightC h2 (by omega), rightC (Nat.le_refl 2) (by omega)]; rfl
  unfold takeM
  rw [ha, if_neg (by simp)]
  have : seek ⟨200, uC c⟩ ⟨200, uC 2⟩ 1 (⟨200, uC c⟩ : BM).p.toNat 0 = some c := seekC h2 200 0 (by omega) (by omega)
  rw [this]
  show ((⟨200, setFrom (uC c) true c 1⟩ : BM), (c : Int), 0) = _
  have hs : setFrom (uC c) true c 1 = uC (c + 1) := by
    show (uC c).set (c + 0) true = _
    rw [Nat.add_zero, setC (by omega)]
  rw [hs]
/-- a view whose first c pages are taken -/
structure VC (c : Nat) (v : VS) : Prop where
  on : v.S.on
  len : v.S.A.length = 51200
  gen : v.gen = 1
  m : v.m = ⟨200, uC c⟩
  old : v.old = ⟨200, uC 2⟩
  wt : v.S.W.length ≤ 4 * c
theorem VC.ok {c : Nat} {v : VS} (h : VC c v) (hc : c ≤ 200) : v.ok := ⟨h.on.1, by rw [h.gen]; decide, by rw [h.m]; exact uC_len (by omega), by rw [h.old]; exact uC_len (by omega)⟩
theorem v200_VC : VC 2 v200 := ⟨DS.new_on 200 (by decide), DS.new_len 200, rfl, uC_two, uC_two, Nat.zero_le _⟩
theorem putN_len {leaf : Bool} {x : ND3} (hr : rightN leaf x.E x.K x.D = true) : (putN leaf x.E x.K x.D).length ≤ 238 := by
  cases leaf
  · rw [rightN, if_neg (by simp), Bool.and_eq_true] at hr
    have := innerB_spec hr.2
    show (putI x.K x.D).length ≤ 238
    rw [putI_length]; omega
  · rw [rightN, if_pos rfl, Bool.and_eq_true, Bool.and_eq_true] at hr
    have := leaf_spec hr.2.2
    show (putL x.E).length ≤ 238
    rw [putL_length]; omega
theorem getN_put {leaf : Bool} {x : ND3} (hr : rightN leaf x.E x.K x.D = true) (hE : ∀ e ∈ x.E, entR e) (hK : ∀ k ∈ x.K, keyR k) : getN leaf (putN leaf x.E x.K x.D) = ⟨leaf, x.E, x.K, x.D, 0⟩ := by
  obtain ⟨E, Ks, D⟩ := x
  cases leaf
  · rw [rightN, if_neg (by simp), Bool.and_eq_true, decide_eq_true_eq] at hr
    have hE0 : E = [] := List.eq_nil_of_length_eq_zero hr.1
    show getN false (putI Ks D) = _
    rw [getN, if_neg (by simp), get_putI hr.2 hK, hE0]
  · rw [rightN, if_pos rfl, Bool.and_eq_true, Bool.and_eq_true, decide_eq_true_eq, decide_eq_true_eq] at hr
    have hK0 : Ks = [] := List.eq_nil_of_length_eq_zero hr.1
    have hD0 : D = [] := List.eq_nil_of_length_eq_zero hr.2.1
    show getN true (putL E) = _
    rw [getN, if_pos rfl, get_putL hr.2.2 hE, hK0, hD0]; rfl
theorem fit200 {j : Nat} (h : j < 200) : j * 256 + 256 ≤ 51200 := by
  have := Nat.mul_le_mul_right 256 (show j + 1 ≤ 200 from h)
  rw [Nat.add_mul] at this
  exact this
theorem kindN_known (leaf : Bool) : knownK (kindN leaf) = true := by cases leaf <;> rfl
theorem VC.wr {c : Nat} {v : VS} {leaf : Bool} {x : ND3} (h : VC c v) (h2 : 2 ≤ c) (hc : c < 200) (hr : rightN leaf x.E x.K x.D = true) (hE : ∀ e ∈ x.E, entR e) (hK : ∀ k ∈ x.K, keyR k) :
    ∃ v', wrN v leaf x = (v', (c : Int), 0) ∧ VC (c + 1) v' ∧ rdN v'.S (c : Int) leaf = ⟨leaf, x.E, x.K, x.D, 0⟩ ∧ ∀ (j : Nat) (lf : Bool), j < 200 → j ≠ c → rdN v'.S (j : Int) lf = rdN v.S (j : Int) lf := by
  have ht : takeM v.m v.old 1 = (⟨200, uC (c + 1)⟩, (c : Int), 0) := by rw [h.m, h.old]; exact takeC h2 hc
  obtain ⟨q, hq⟩ : ∃ q : PG, q = ⟨kindN leaf, (c : Int), v.gen, putN leaf x.E x.K x.D⟩ := ⟨_, rfl⟩
  have hok : okP q = true := by
    have hb := putN_len hr
    rw [hq]
    show (knownK (kindN leaf) && decide ((0 : Int) ≤ (c : Int)) && decide ((c : Int) < 512) && decide ((putN leaf x.E x.K x.D).length ≤ 238)) = true
    rw [kindN_known, decide_eq_true (by omega), decide_eq_true (by omega), decide_eq_true hb]; rfl
  have hpl : (putP q).length = 256 := putP_length q (okP_spec hok).2.2.2
  have hfit : c * 256 + 256 ≤ v.S.A.length := by rw [h.len]; omega
  obtain ⟨w1, w2, w3, w4, w5⟩ := DS.wrs_page h.on c (putP q) hpl hfit
  have hwp : wrPg v.S q = v.S.wrs ((c : Int) * 4) (secs (putP q) 4) := by rw [wrPg, if_pos hok, hq]
  have hVl : v.S.V.length = 51200 := by rw [DS.V_length h.on.1, h.len]
  have hgp := get_put q hok (by rw [hq]; show v.gen < _; rw [h.gen]; decide)
  generalize v.S.wrs ((c : Int) * 4) (secs (putP q) 4) = R at *
  have hrdc : ∀ kd, rdPg R.1 (c : Int) kd = if kindN leaf = kd then (q, 0) else (zeroP, 3) := by
    intro kd
    rw [rdPg_on w2 c (by rw [w4]; exact hfit), w3, pgAt_same _ _ _ (by rw [hVl]; omega) hpl, hgp]
    have e1 : q.a = (c : Int) := by rw [hq]
    have e2 : q.k = kindN leaf := by rw [hq]
    by_cases hk : kindN leaf = kd
    · rw [if_pos hk, if_pos ⟨rfl, e1, by rw [← hk]; exact e2⟩]
    · rw [if_neg hk, if_neg (fun z => hk (by rw [← e2]; exact z.2.2))]
  have hwt := h.wt
  have hlen : R.1.A.length = 51200 := by rw [w4, h.len]
  have hVC : VC (c + 1) ⟨R.1, v.gen, ⟨200, uC (c + 1)⟩, v.old⟩ := { on := w2, len := hlen, gen := h.gen, m := rfl, old := h.old, wt := (by have := w5; simp only; omega) }
  refine ⟨⟨R.1, v.gen, ⟨200, uC (c + 1)⟩, v.old⟩, ?_, hVC, ?_, ?_⟩
  · rw [wrN, if_neg (by rw [hr]; simp), ht, if_neg (by simp), ← hq, hwp]
    simp only [w1]
  · show rdN R.1 (c : Int) leaf = _
    have hb : q.b = putN leaf x.E x.K x.D := by rw [hq]
    rw [rdN, hrdc, if_pos rfl, if_pos rfl, hb]
    exact getN_put hr hE hK
  · intro j lf hj hjc
    show rdN R.1 (j : Int) lf = _
    have e : rdPg R.1 (j : Int) (kindN lf) = rdPg v.S (j : Int) (kindN lf) := by
      rw [rdPg_on w2 j (by rw [w4, h.len]; exact fit200 hj), rdPg_on h.on j (by rw [h.len]; exact fit200 hj), w3, pgAt_other _ _ _ _ (by rw [hVl]; omega) hpl hjc]
    rw [rdN, rdN, e]
/-- nodes that are written one by one -/
theorem VC.go {leaf : Bool} : ∀ (xs : List ND3) {c : Nat} {v : VS}, VC c v → 2 ≤ c → c + xs.length ≤ 200 → (∀ x ∈ xs, rightN leaf x.E x.K x.D = true ∧ (∀ e ∈ x.E, entR e) ∧ ∀ k ∈ x.K, keyR k) →
    ∃ v', unGo leaf v xs = (v', (List.range xs.length).map (fun i => ((c + i : Nat) : Int)), 0) ∧ VC (c + xs.length) v' ∧ (∀ i x, xs[i]? = some x → rdN v'.S ((c + i : Nat) : Int) leaf = ⟨leaf, x.E, x.K, x.D, 0⟩) ∧ ∀ (j : Nat) (lf : Bool), j < c → rdN v'.S (j : Int) lf = rdN v.S (j : Int) lf
  | [], c, v, h, h2, hc, hx => ⟨v, rfl, h, fun i x hi => by simp at hi, fun _ _ _ => rfl⟩
  | x :: xs, c, v, h, h2, hc, hx => by
    rw [List.length_cons] at hc
    obtain ⟨r1, r2, r3⟩ := hx x (List.mem_cons_self ..)
    obtain ⟨v1, e1, h1, a1, b1⟩ := h.wr h2 (by omega) r1 r2 r3
    obtain ⟨v', e2, h3, a2, b2⟩ := VC.go xs h1 (by omega) (by omega) (fun y hy => hx y (List.mem_cons_of_mem _ hy))
    refine ⟨v', ?_, by rw [List.length_cons, show c + (xs.length + 1) = c + 1 + xs.length by omega]; exact h3, ?_, ?_⟩
    · rw [unGo, e1, if_neg (by simp)]
      simp only [e2]
      rw [List.length_cons, List.range_succ_eq_map, List.map_cons, List.map_map]
      simp only [Nat.add_zero]
      congr 3
      refine List.map_congr_left (fun i _ => ?_)
      show ((c + 1 + i : Nat) : Int) = ((c + (i + 1) : Nat) : Int)
      omega
    · intro i y hy
      cases i with
      | zero =>
        simp at hy
        subst hy
        rw [Nat.add_zero, b2 c leaf (by omega)]
        exact a1
      | succ i =>
        have := a2 i y (by simpa using hy)
        rw [show c + (i + 1) = c + 1 + i by omega]
        exact this
    · intro j lf hj
      rw [b2 j lf (by omega), b1 j lf (by omega) (by omega)]
end Go.Proofs.Ytckdlfbbkemklaa
end
