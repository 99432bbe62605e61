import Derived.Test.YtckdlfbbkemklaaZNdWalk5
/- node: Put of any node; an entry that is read. -/
namespace Go.Proofs.Ytckdlfbbkemklaa
open Go Go.RowKit Go.Gv
set_option linter.unusedVariables false
set_option linter.unusedSimpArgs false

theorem node_Put_inner (ev kv dv : Value) (E : List ENT) (K : List KEY) (D : List Int) (h : rightN false E K D = true) : SpecR Try.prog 53 #[ndW false ev kv dv] (fun w => ndR w ev kv dv E K D) (fun r H' => ∃ u, r = .tuple #[u, .int .i64 0] ∧ H' = [own 5 1 u (putN false E K D).length (B8 (putN false E K D))]) := by
  have h' : E = [] ∧ innerB K D = true := by
    rw [rightN, if_neg (by simp)] at h
    simp only [Bool.and_eq_true, decide_eq_true_eq] at h
    exact ⟨List.eq_nil_of_length_eq_zero h.1, h.2⟩
  obtain ⟨rfl, hi⟩ := h'
  have := node_Put ev kv dv K D hi
  exact this
set_option maxHeartbeats 1000000 in
theorem node_PutN_no (leaf : Bool) (ev kv dv : Value) (E : List ENT) (K : List KEY) (D : List Int) (h : rightN leaf E K D = false) : SpecR Try.prog 53 #[ndW leaf ev kv dv] (fun w => ndR w ev kv dv E K D) (fun r H' => r = .tuple #[.slice none 0 0, .int .i64 1] ∧ H' = []) := by
  refine SpecR.of (fun w hrr => ?_)
  obtain ⟨hr0, hr1, hr2⟩ := hrr
  refine Calls.enter Try.func53 rfl rfl rfl (St.rebase w) ?_
  simp only [argSlots]
  ((with_reducible refine Tri.seq (Tri.region ?_)); (with_reducible apply Tri.op); rfl)
  (first | ((with_reducible apply o_boxA); (case hx => rfl); (case hn => rfl); intro b1) | ((with_reducible apply o_box1); (case hx => rfl); (case h1 => rfl); (case hn => rfl); intro b1))
  ((with_reducible apply Tri.op); rfl; (with_reducible apply o_assign); rfl; rfl; (with_reducible apply Tri.op); rfl; (with_reducible apply o_assign); rfl; rfl; (with_reducible refine Tri.nil (Tri.thenN (Tri.seq (Tri.seq (Tri.region ?_))))); (with_reducible apply Tri.op); rfl)
  ((with_reducible apply o_loadAll (cs := ndLL leaf ev kv dv)); (case hx => rfl); (case p => (first | ((repeat (first | with_reducible exact Pull.head | with_reducible apply Pull.tail)); done) | (repeat (first | exact Pull.head | apply Pull.tail)))); (case hl => rfl); (case hn => rfl))
  ((with_reducible apply Tri.op); rfl)
  ((with_reducible apply o_callV (hs := node_Right leaf ev kv dv E K D)); (case hargs => (repeat first | exact evs.nil | (apply evs.cons; case a => rfl))); (case hpre => exact ndR_ex (by (first | ((repeat (first | with_reducible exact Pull.head | with_reducible apply Pull.tail)); done) | (repeat (first | exact Pull.head | apply Pull.tail)))) hr0 hr1 hr2); (case hn => rfl))
  ((with_reducible apply Tri.op); rfl; (with_reducible apply o_not); rfl; rfl; (with_reducible refine Tri.nil (Tri.thenN ?_)))
  ((with_reducible apply Tri.setb 11 (true)); (case h => rfl); (case hi => (rw [h]; rfl)))
  ((with_reducible apply Tri.condT); rfl; rfl; (with_reducible refine Tri.seq (Tri.region ?_)); (with_reducible apply Tri.op); rfl; (with_reducible apply o_assign); rfl; rfl; (with_reducible apply Tri.op); rfl; (with_reducible apply o_assign); rfl; rfl; (with_reducible refine Tri.nil (Tri.thenN (Tri.ret (Tri.thenR ?_)))))
  ((first | with_reducible apply Tri.fin | with_reducible apply Tri.finN); (case hr => rfl); (case h => exact ResL.cons (Res1.tmp rfl) (ResL.cons (Res1.tmp rfl) (ResL.nil))); (apply fin_R (Hn := [])); (case p => exact (by (repeat (first | exact Pulls.nil | (apply Pulls.cons; (case a => (first | ((repeat (first | with_reducible exact Gv.Pull.head | with_reducible apply Gv.Pull.tail)); done) | (repeat (first | exact Gv.Pull.head | apply Gv.Pull.tail))))))))); exact ⟨by simp only [tupled]; done, rfl⟩)
set_option maxHeartbeats 4000000 in
theorem node_Put_leaf (ev kv dv : Value) (E : List ENT) (K : List KEY) (D : List Int) (h : rightN true E K D = true) (hR : ∀ e ∈ E, entR e) : SpecR Try.prog 53 #[ndW true ev kv dv] (fun w => ndR w ev kv dv E K D) (fun r H' => ∃ u, r = .tuple #[u, .int .i64 0] ∧ H' = [own 5 1 u (putN true E K D).length (B8 (putN true E K D))]) := by
  have h' : K = [] ∧ D = [] ∧ leafB E = true := by
    simp only [rightN, if_true, Bool.and_eq_true, decide_eq_true_eq] at h
    exact ⟨List.eq_nil_of_length_eq_zero h.1, List.eq_nil_of_length_eq_zero h.2.1, h.2.2⟩
  obtain ⟨rfl, rfl, hlf⟩ := h'
  obtain ⟨i1, i2, i3⟩ := leaf_spec hlf
  refine SpecR.of (fun w hrr => ?_)
  obtain ⟨hr0, hr1, hr2⟩ := hrr
  refine Calls.enter Try.func53 rfl rfl rfl (St.rebase w) ?_
  simp only [argSlots]
  ((with_reducible refine Tri.seq (Tri.region ?_)); (with_reducible apply Tri.op); rfl)
  (first | ((with_reducible apply o_boxA); (case hx => rfl); (case hn => rfl); intro b1) | ((with_reducible apply o_box1); (case hx => rfl); (case h1 => rfl); (case hn => rfl); intro b1))
  ((with_reducible apply Tri.op); rfl; (with_reducible apply o_assign); rfl; rfl; (with_reducible apply Tri.op); rfl; (with_reducible apply o_assign); rfl; rfl; (with_reducible refine Tri.nil (Tri.thenN (Tri.seq (Tri.seq (Tri.region ?_))))); (with_reducible apply Tri.op); rfl)
  ((with_reducible apply o_loadAll (cs := ndLL true ev kv dv)); (case hx => rfl); (case p => (first | ((repeat (first | with_reducible exact Pull.head | with_reducible apply Pull.tail)); done) | (repeat (first | exact Pull.head | apply Pull.tail)))); (case hl => rfl); (case hn => rfl))
  ((with_reducible apply Tri.op); rfl)
  ((with_reducible apply o_callV (hs := node_Right true ev kv dv E [] [])); (case hargs => (repeat first | exact evs.nil | (apply evs.cons; case a => rfl))); (case hpre => exact ndR_ex (by (first | ((repeat (first | with_reducible exact Pull.head | with_reducible apply Pull.tail)); done) | (repeat (first | exact Pull.head | apply Pull.tail)))) hr0 hr1 hr2); (case hn => rfl))
  ((with_reducible apply Tri.op); rfl; (with_reducible apply o_not); rfl; rfl; (with_reducible refine Tri.nil (Tri.thenN ?_)))
  ((with_reducible apply Tri.setb 11 (false)); (case h => rfl); (case hi => (rw [h]; rfl)))
  ((with_reducible apply Tri.condF); rfl; rfl; (with_reducible refine Tri.skip (Tri.thenN (Tri.seq (Tri.region ?_)))); (with_reducible apply Tri.op); rfl)
  ((with_reducible apply o_loadAll (cs := ndLL true ev kv dv)); (case hx => rfl); (case p => (first | ((repeat (first | with_reducible exact Pull.head | with_reducible apply Pull.tail)); done) | (repeat (first | exact Pull.head | apply Pull.tail)))); (case hl => rfl); (case hn => rfl))
  ((with_reducible apply Tri.op); rfl)
  ((with_reducible apply o_callV (hs := node_Size true ev kv dv E [] [])); (case hargs => (repeat first | exact evs.nil | (apply evs.cons; case a => rfl))); (case hpre => exact ndR_ex (by (first | ((repeat (first | with_reducible exact Pull.head | with_reducible apply Pull.tail)); done) | (repeat (first | exact Pull.head | apply Pull.tail)))) hr0 hr1 hr2); (case hn => rfl))
  ((with_reducible apply Tri.op); rfl; (with_reducible apply o_conv8); rfl; rfl; (with_reducible apply Tri.op); rfl)
  ((with_reducible apply Tri.seti 14 (((UInt8.ofNat E.length).toNat : Int))); (case h => rfl); (case hi => (have : ((UInt8.ofNat E.length).toNat : Int) = (E.length : Int) % 256 := by { simp }; rw [this]; rfl)))
  ((with_reducible apply o_litSl (ys := [.int .u8 ((UInt8.ofNat E.length).toNat : Int)])); (case hp => (repeat first | exact pev.nil | (apply pev.cons; case a => rfl))); (case hm => rfl); (case hf => rfl); (case hn => rfl); intro v4)
  ((with_reducible apply Tri.op); rfl; (with_reducible apply o_assign); rfl; rfl; (with_reducible refine Tri.nil (Tri.thenN (Tri.seq (Tri.seq (Tri.region ?_))))); (with_reducible apply Tri.op); rfl; (with_reducible apply o_fieldAddr); rfl; rfl; (with_reducible apply Tri.op); rfl; (with_reducible apply o_load); rfl; (focus (first | ((repeat (first | with_reducible exact Pull.head | with_reducible apply Pull.tail)); done) | (repeat (first | exact Pull.head | apply Pull.tail)))); rfl; rfl; (with_reducible apply Tri.op); rfl)
  ((with_reducible apply o_lenRd (hr := hr0)); (case hx => rfl); (case hn => rfl))
  ((with_reducible apply Tri.op); rfl; (with_reducible apply o_move); rfl; rfl; (with_reducible refine Tri.nil (Tri.thenN (Tri.block ?_))))
  ((with_reducible apply Tri.eqA (A := own 5 1 v4 _ _) (B := own 5 1 v4 (UInt8.ofNat E.length :: entsB E 0).length (B8 (UInt8.ofNat E.length :: entsB E 0)))); (case p => (first | ((repeat (first | with_reducible exact Pull.head | with_reducible apply Pull.tail)); done) | (repeat (first | exact Pull.head | apply Pull.tail)))); (case e => rfl))
  ((first | with_reducible apply Tri.loop (α := Σ' (i : Nat) (u : Value), i ≤ E.length) (m := fun x => E.length - x.1) (Lx := fun x => [(1, .pointer (some ⟨b1, 0, none⟩)), (4, x.2.1), (17, ev), (18, .int .i64 (E.length : Int)), (19, .int .i64 (x.1 : Int))]) (Hx := fun x => [own 5 1 x.2.1 (UInt8.ofNat E.length :: entsB E x.1).length (B8 (UInt8.ofNat E.length :: entsB E x.1)), blk b1 33 (ndLL true ev kv dv), Ex (hp w)]) (x0 := ⟨0, v4, Nat.zero_le _⟩) | with_reducible apply TriR.loop (α := Σ' (i : Nat) (u : Value), i ≤ E.length) (m := fun x => E.length - x.1) (Lx := fun x => [(1, .pointer (some ⟨b1, 0, none⟩)), (4, x.2.1), (17, ev), (18, .int .i64 (E.length : Int)), (19, .int .i64 (x.1 : Int))]) (Hx := fun x => [own 5 1 x.2.1 (UInt8.ofNat E.length :: entsB E x.1).length (B8 (UInt8.ofNat E.length :: entsB E x.1)), blk b1 33 (ndLL true ev kv dv), Ex (hp w)]) (x0 := ⟨0, v4, Nat.zero_le _⟩)); (case hL => ((try dsimp only); (repeat (first | exact trivial | refine And.intro (by rfl) ?_)))); (case hH => ((try dsimp only); apply St.all; (repeat (first | exact Pulls.nil | (apply Pulls.cons; (case a => (first | ((repeat (first | with_reducible exact Gv.Pull.head | with_reducible apply Gv.Pull.tail)); done) | (repeat (first | exact Gv.Pull.head | apply Gv.Pull.tail)))))))))); (rintro ⟨i, u, hi⟩ mx hmx; (try dsimp only at hmx ⊢))
  obtain ⟨c0, hc0⟩ : ∃ c0, c0 = UInt8.ofNat E.length :: entsB E i := ⟨_, rfl⟩
  have hl0 : c0.length = 1 + i * 30 := by rw [hc0, List.length_cons, entsB_length]; omega
  rw [← hc0]
  ((with_reducible refine Tri.seq (Tri.region ?_)); (with_reducible apply Tri.op); rfl; (with_reducible apply o_lss); rfl; rfl; rfl; (with_reducible refine Tri.nil (Tri.thenN (Tri.seq ?_))))
  ((first | with_reducible apply Tri.condD | with_reducible apply TriR.condD); (case hc => rfl); (all_goals intro hc))
  · have hil : i < E.length := by omega
    obtain ⟨e, he⟩ : ∃ e, e = E.getD i ent0 := ⟨_, rfl⟩
    have h8 := EL_eight E i hil
    rw [← he] at h8
    have hat := entsTo_at i1 i hil
    rw [entAt, Bool.and_eq_true, ← he] at hat
    obtain ⟨k1, k2, k3, k4, k5, k6, k7⟩ := entOk_spec hat.1
    have hRe : entR e := by rw [he, List.getD_eq_getElem?_getD, List.getElem?_eq_getElem hil]; exact hR _ (List.getElem_mem hil)
    obtain ⟨_, _, hcr⟩ := hRe
    ((with_reducible refine Tri.skip (Tri.thenN (Tri.seq (Tri.block (Tri.seq (Tri.region ?_)))))); (with_reducible apply Tri.op); rfl)
    ((with_reducible apply o_ixRd (hr := hr0) (j := i)); (case hx => rfl); (case hy => rfl); (case hj => rfl); (case hlt => exact hil); (case hl => (rw [EL_length]; omega)); (case hn => rfl))
    ((with_reducible apply Tri.op); rfl)
    ((with_reducible apply o_loadAggRd (hr := hr0)); (case hx => rfl); (case p => (first | ((repeat (first | with_reducible exact Pull.head | with_reducible apply Pull.tail)); done) | (repeat (first | exact Pull.head | apply Pull.tail)))); (case hv => exact h8); (case hl => rfl); (case hn => rfl))
    ((with_reducible apply Tri.op); rfl)
    ((with_reducible apply o_alloc); (case hn => rfl); intro b6)
    ((with_reducible apply Tri.op); rfl)
    ((with_reducible apply o_storeAll (ys := entL e)); (case hx => rfl); (case hy => rfl); (case p => (first | ((repeat (first | with_reducible exact Pull.head | with_reducible apply Pull.tail)); done) | (repeat (first | exact Pull.head | apply Pull.tail)))); (case hl => rfl); (case hc => rfl); (case h1 => exact entL_one _))
    ((with_reducible refine Tri.nil (Tri.thenN (Tri.seq ?_))))
    ((first | with_reducible apply Tri.mix [blk b6 100 (entL e)] | ((with_reducible apply TriR.mix [blk b6 100 (entL e)]); (case hnd => rfl))); (case p => (repeat (first | exact Pulls.nil | (apply Pulls.cons; (case a => (first | ((repeat (first | with_reducible exact Gv.Pull.head | with_reducible apply Gv.Pull.tail)); done) | (repeat (first | exact Gv.Pull.head | apply Gv.Pull.tail)))))))); (dsimp only [List.length]))
    ((first | ((with_reducible apply TriM.q 0); rfl; rfl) | ((with_reducible apply TriM.qYes 0); rfl; rfl; rfl; with_reducible rfl)); kernel_rfl; rfl; rfl; (intro F K hK; (with_reducible apply o_move); rfl; rfl; exact hK); (first | ((with_reducible apply TriM.q 1); rfl; rfl) | ((with_reducible apply TriM.qYes 1); rfl; rfl; rfl; with_reducible rfl)); kernel_rfl; rfl; rfl; (intro F K hK; (with_reducible apply o_fieldAddr); rfl; rfl; exact hK))
    ((first | ((with_reducible apply TriM.q 2); (case ho => rfl); (case hg => rfl)) | ((with_reducible apply TriM.qYes 2); (case ho => rfl); (case hg => rfl); (case hyl => rfl); (case hb => with_reducible rfl))); (case hB => kernel_rfl); (case hd => rfl); (case hn => rfl); (case h => (intro F K hK; ((with_reducible apply o_loadAgg (ys := keyL e.key)); (case hx => rfl); (case p => (first | ((repeat (first | with_reducible exact Pull.head | with_reducible apply Pull.tail)); done) | (repeat (first | exact Pull.head | apply Pull.tail)))); (case hv => rfl); (case hl => rfl); (case hn => rfl)); exact hK)))
    ((first | ((with_reducible apply TriM.q 4); rfl; rfl) | ((with_reducible apply TriM.qYes 4); rfl; rfl; rfl; with_reducible rfl)); kernel_rfl; rfl; rfl; (intro F K hK; (with_reducible apply o_fieldAddr); rfl; rfl; exact hK); (first | ((with_reducible apply TriM.q 5); rfl; rfl) | ((with_reducible apply TriM.qYes 5); rfl; rfl; rfl; with_reducible rfl)); kernel_rfl; rfl; rfl; (intro F K hK; (with_reducible apply o_load); rfl; (focus (first | ((repeat (first | with_reducible exact Pull.head | with_reducible apply Pull.tail)); done) | (repeat (first | exact Pull.head | apply Pull.tail)))); rfl; rfl; exact hK); (first | ((with_reducible apply TriM.q 6); rfl; rfl) | ((with_reducible apply TriM.qYes 6); rfl; rfl; rfl; with_reducible rfl)); kernel_rfl; rfl; rfl; (intro F K hK; (with_reducible apply o_conv64); rfl; rfl; exact hK))
    ((with_reducible apply TriM.setv 29 ((.int .u64 (n64 e.fin : Int)))); (case h => rfl); (case hv => (congr 1; unfold n64; omega)))
    ((with_reducible apply TriM.a 3); (case ho => rfl); (case hg => rfl); (case hr => kernel_rfl); (try dsimp only [List.cons_append, List.nil_append]))
    ((with_reducible apply o_callS (hs := node_putKey u c0 e.key k1 (by omega))); (case hargs => (repeat first | exact evs.nil | (apply evs.cons; case a => rfl))); (case p => (repeat (first | exact Pulls.nil | (apply Pulls.cons; (case a => (first | ((repeat (first | with_reducible exact Gv.Pull.head | with_reducible apply Gv.Pull.tail)); done) | (repeat (first | exact Gv.Pull.head | apply Gv.Pull.tail)))))))); (case hn => rfl))
    rintro v1 H1 rfl
    obtain ⟨c1, hc1⟩ : ∃ c, c = c0 ++ keyB e.key := ⟨_, rfl⟩
    have hl1 : c1.length = 13 + i * 30 := by rw [hc1, List.length_append, hl0, keyB_length]; omega
    rw [← hc1]
    (try dsimp only [List.cons_append, List.nil_append])
    ((with_reducible apply TriM.back); (case p => (repeat (first | exact Pulls.nil | (apply Pulls.cons; (case a => (first | ((repeat (first | with_reducible exact Gv.Pull.head | with_reducible apply Gv.Pull.tail)); done) | (repeat (first | exact Gv.Pull.head | apply Gv.Pull.tail)))))))))
    ((with_reducible apply TriM.a 7); (case ho => rfl); (case hg => rfl); (case hr => kernel_rfl); (try dsimp only [List.cons_append, List.nil_append]))
    ((with_reducible apply o_callS (hs := node_big v1 c1 (n64 e.fin) 8 (by omega) (by omega))); (case hargs => (repeat first | exact evs.nil | (apply evs.cons; case a => rfl))); (case p => (repeat (first | exact Pulls.nil | (apply Pulls.cons; (case a => (first | ((repeat (first | with_reducible exact Gv.Pull.head | with_reducible apply Gv.Pull.tail)); done) | (repeat (first | exact Gv.Pull.head | apply Gv.Pull.tail)))))))); (case hn => rfl))
    rintro v2 H2 rfl
    obtain ⟨c2, hc2⟩ : ∃ c, c = c1 ++ bigB (n64 e.fin) 8 := ⟨_, rfl⟩
    have hl2 : c2.length = 21 + i * 30 := by rw [hc2, List.length_append, hl1, bigB_length]; omega
    rw [← hc2]
    (try dsimp only [List.cons_append, List.nil_append])
    ((with_reducible apply TriM.back); (case p => (repeat (first | exact Pulls.nil | (apply Pulls.cons; (case a => (first | ((repeat (first | with_reducible exact Gv.Pull.head | with_reducible apply Gv.Pull.tail)); done) | (repeat (first | exact Gv.Pull.head | apply Gv.Pull.tail)))))))))
    ((first | ((with_reducible apply TriM.q 8); rfl; rfl) | ((with_reducible apply TriM.qYes 8); rfl; rfl; rfl; with_reducible rfl)); kernel_rfl; rfl; rfl; (intro F K hK; (with_reducible apply o_assign); rfl; rfl; exact hK))
    ((with_reducible apply TriM.nil); (case hr => kernel_rfl); (try dsimp only [List.cons_append, List.nil_append]))
    ((with_reducible refine Tri.thenN (Tri.seq ?_)))
    ((first | with_reducible apply Tri.mix [blk b6 100 (entL e)] | ((with_reducible apply TriR.mix [blk b6 100 (entL e)]); (case hnd => rfl))); (case p => (repeat (first | exact Pulls.nil | (apply Pulls.cons; (case a => (first | ((repeat (first | with_reducible exact Gv.Pull.head | with_reducible apply Gv.Pull.tail)); done) | (repeat (first | exact Gv.Pull.head | apply Gv.Pull.tail)))))))); (dsimp only [List.length]))
    ((first | ((with_reducible apply TriM.q 0); rfl; rfl) | ((with_reducible apply TriM.qYes 0); rfl; rfl; rfl; with_reducible rfl)); kernel_rfl; rfl; rfl; (intro F K hK; (with_reducible apply o_move); rfl; rfl; exact hK); (first | ((with_reducible apply TriM.q 1); rfl; rfl) | ((with_reducible apply TriM.qYes 1); rfl; rfl; rfl; with_reducible rfl)); kernel_rfl; rfl; rfl; (intro F K hK; (with_reducible apply o_fieldAddr); rfl; rfl; exact hK); (first | ((with_reducible apply TriM.q 2); rfl; rfl) | ((with_reducible apply TriM.qYes 2); rfl; rfl; rfl; with_reducible rfl)); kernel_rfl; rfl; rfl; (intro F K hK; (with_reducible apply o_load); rfl; (focus (first | ((repeat (first | with_reducible exact Pull.head | with_reducible apply Pull.tail)); done) | (repeat (first | exact Pull.head | apply Pull.tail)))); rfl; rfl; exact hK); (first | ((with_reducible apply TriM.q 3); rfl; rfl) | ((with_reducible apply TriM.qYes 3); rfl; rfl; rfl; with_reducible rfl)); kernel_rfl; rfl; rfl; (intro F K hK; (with_reducible apply o_convI); rfl; rfl; (first | decide | (exact wrap_i64 (by omega)) | (exact wrap_u8 (by omega)) | (exact wrap_u16 (by omega)) | (exact wrap_u32 (by omega)) | (exact wrap_u64 (by omega))); exact hK))
    ((with_reducible apply TriM.setv 34 ((.int .u64 (e.addr.toNat : Int)))); (case h => rfl); (case hv => (congr 1; omega)))
    ((first | ((with_reducible apply TriM.q 5); rfl; rfl) | ((with_reducible apply TriM.qYes 5); rfl; rfl; rfl; with_reducible rfl)); kernel_rfl; rfl; rfl; (intro F K hK; (with_reducible apply o_fieldAddr); rfl; rfl; exact hK); (first | ((with_reducible apply TriM.q 6); rfl; rfl) | ((with_reducible apply TriM.qYes 6); rfl; rfl; rfl; with_reducible rfl)); kernel_rfl; rfl; rfl; (intro F K hK; (with_reducible apply o_load); rfl; (focus (first | ((repeat (first | with_reducible exact Pull.head | with_reducible apply Pull.tail)); done) | (repeat (first | exact Pull.head | apply Pull.tail)))); rfl; rfl; exact hK); (first | ((with_reducible apply TriM.q 7); rfl; rfl) | ((with_reducible apply TriM.qYes 7); rfl; rfl; rfl; with_reducible rfl)); kernel_rfl; rfl; rfl; (intro F K hK; (with_reducible apply o_convI); rfl; rfl; (first | decide | (exact wrap_i64 (by omega)) | (exact wrap_u8 (by omega)) | (exact wrap_u16 (by omega)) | (exact wrap_u32 (by omega)) | (exact wrap_u64 (by omega))); exact hK))
    ((with_reducible apply TriM.setv 38 ((.int .u64 (e.len.toNat : Int)))); (case h => rfl); (case hv => (congr 1; omega)))
    ((with_reducible apply TriM.a 4); (case ho => rfl); (case hg => rfl); (case hr => kernel_rfl); (try dsimp only [List.cons_append, List.nil_append]))
    ((with_reducible apply o_callS (hs := node_big v2 c2 e.addr.toNat 2 (by omega) (by omega))); (case hargs => (repeat first | exact evs.nil | (apply evs.cons; case a => rfl))); (case p => (repeat (first | exact Pulls.nil | (apply Pulls.cons; (case a => (first | ((repeat (first | with_reducible exact Gv.Pull.head | with_reducible apply Gv.Pull.tail)); done) | (repeat (first | exact Gv.Pull.head | apply Gv.Pull.tail)))))))); (case hn => rfl))
    rintro v3 H3 rfl
    obtain ⟨c3, hc3⟩ : ∃ c, c = c2 ++ bigB e.addr.toNat 2 := ⟨_, rfl⟩
    have hl3 : c3.length = 23 + i * 30 := by rw [hc3, List.length_append, hl2, bigB_length]; omega
    rw [← hc3]
    (try dsimp only [List.cons_append, List.nil_append])
    ((with_reducible apply TriM.back); (case p => (repeat (first | exact Pulls.nil | (apply Pulls.cons; (case a => (first | ((repeat (first | with_reducible exact Gv.Pull.head | with_reducible apply Gv.Pull.tail)); done) | (repeat (first | exact Gv.Pull.head | apply Gv.Pull.tail)))))))))
    ((with_reducible apply TriM.a 8); (case ho => rfl); (case hg => rfl); (case hr => kernel_rfl); (try dsimp only [List.cons_append, List.nil_append]))
    ((with_reducible apply o_callS (hs := node_big v3 c3 e.len.toNat 2 (by omega) (by omega))); (case hargs => (repeat first | exact evs.nil | (apply evs.cons; case a => rfl))); (case p => (repeat (first | exact Pulls.nil | (apply Pulls.cons; (case a => (first | ((repeat (first | with_reducible exact Gv.Pull.head | with_reducible apply Gv.Pull.tail)); done) | (repeat (first | exact Gv.Pull.head | apply Gv.Pull.tail)))))))); (case hn => rfl))
    rintro v4 H4 rfl
    obtain ⟨c4, hc4⟩ : ∃ c, c = c3 ++ bigB e.len.toNat 2 := ⟨_, rfl⟩
    have hl4 : c4.length = 25 + i * 30 := by rw [hc4, List.length_append, hl3, bigB_length]; omega
    rw [← hc4]
    (try dsimp only [List.cons_append, List.nil_append])
    ((with_reducible apply TriM.back); (case p => (repeat (first | exact Pulls.nil | (apply Pulls.cons; (case a => (first | ((repeat (first | with_reducible exact Gv.Pull.head | with_reducible apply Gv.Pull.tail)); done) | (repeat (first | exact Gv.Pull.head | apply Gv.Pull.tail)))))))))
    ((first | ((with_reducible apply TriM.q 9); rfl; rfl) | ((with_reducible apply TriM.qYes 9); rfl; rfl; rfl; with_reducible rfl)); kernel_rfl; rfl; rfl; (intro F K hK; (with_reducible apply o_assign); rfl; rfl; exact hK))
    ((with_reducible apply TriM.nil); (case hr => kernel_rfl); (try dsimp only [List.cons_append, List.nil_append]))
    ((with_reducible refine Tri.thenN ?_))
    ((first | with_reducible apply Tri.mix [blk b6 100 (entL e)] | ((with_reducible apply TriR.mix [blk b6 100 (entL e)]); (case hnd => rfl))); (case p => (repeat (first | exact Pulls.nil | (apply Pulls.cons; (case a => (first | ((repeat (first | with_reducible exact Gv.Pull.head | with_reducible apply Gv.Pull.tail)); done) | (repeat (first | exact Gv.Pull.head | apply Gv.Pull.tail)))))))); (dsimp only [List.length]))
    ((first | ((with_reducible apply TriM.q 0); rfl; rfl) | ((with_reducible apply TriM.qYes 0); rfl; rfl; rfl; with_reducible rfl)); kernel_rfl; rfl; rfl; (intro F K hK; (with_reducible apply o_move); rfl; rfl; exact hK); (first | ((with_reducible apply TriM.q 1); rfl; rfl) | ((with_reducible apply TriM.qYes 1); rfl; rfl; rfl; with_reducible rfl)); kernel_rfl; rfl; rfl; (intro F K hK; (with_reducible apply o_fieldAddr); rfl; rfl; exact hK); (first | ((with_reducible apply TriM.q 2); rfl; rfl) | ((with_reducible apply TriM.qYes 2); rfl; rfl; rfl; with_reducible rfl)); kernel_rfl; rfl; rfl; (intro F K hK; (with_reducible apply o_load); rfl; (focus (first | ((repeat (first | with_reducible exact Pull.head | with_reducible apply Pull.tail)); done) | (repeat (first | exact Pull.head | apply Pull.tail)))); rfl; rfl; exact hK); (first | ((with_reducible apply TriM.q 3); rfl; rfl) | ((with_reducible apply TriM.qYes 3); rfl; rfl; rfl; with_reducible rfl)); kernel_rfl; rfl; rfl; (intro F K hK; (with_reducible apply o_convI); rfl; rfl; (first | decide | (exact wrap_i64 (by omega)) | (exact wrap_u8 (by omega)) | (exact wrap_u16 (by omega)) | (exact wrap_u32 (by omega)) | (exact wrap_u64 (by omega))); exact hK))
    ((with_reducible apply TriM.setv 43 ((.int .u8 ((UInt8.ofNat e.count.toNat).toNat : Int)))); (case h => rfl); (case hv => (congr 1; rw [byte_of (by omega) (by omega)]; try omega)))
    ((first | ((with_reducible apply TriM.q 4); rfl; rfl) | ((with_reducible apply TriM.qYes 4); rfl; rfl; rfl; with_reducible rfl)); kernel_rfl; rfl; rfl; (intro F K hK; (with_reducible apply o_fieldAddr); rfl; rfl; exact hK); (first | ((with_reducible apply TriM.q 5); rfl; rfl) | ((with_reducible apply TriM.qYes 5); rfl; rfl; rfl; with_reducible rfl)); kernel_rfl; rfl; rfl; (intro F K hK; (with_reducible apply o_load); rfl; (focus (first | ((repeat (first | with_reducible exact Pull.head | with_reducible apply Pull.tail)); done) | (repeat (first | exact Pull.head | apply Pull.tail)))); rfl; rfl; exact hK); (first | ((with_reducible apply TriM.q 6); rfl; rfl) | ((with_reducible apply TriM.qYes 6); rfl; rfl; rfl; with_reducible rfl)); kernel_rfl; rfl; rfl; (intro F K hK; (with_reducible apply o_convI); rfl; rfl; (first | decide | (exact wrap_i64 (by omega)) | (exact wrap_u8 (by omega)) | (exact wrap_u16 (by omega)) | (exact wrap_u32 (by omega)) | (exact wrap_u64 (by omega))); exact hK))
    ((with_reducible apply TriM.setv 46 ((.int .u8 ((UInt8.ofNat e.codec.toNat).toNat : Int)))); (case h => rfl); (case hv => (congr 1; rw [byte_of (by omega) (by omega)]; try omega)))
    ((first | ((with_reducible apply TriM.q 9); rfl; rfl) | ((with_reducible apply TriM.qYes 9); rfl; rfl; rfl; with_reducible rfl)); kernel_rfl; rfl; rfl; (intro F K hK; (with_reducible apply o_fieldAddr); rfl; rfl; exact hK); (first | ((with_reducible apply TriM.q 10); rfl; rfl) | ((with_reducible apply TriM.qYes 10); rfl; rfl; rfl; with_reducible rfl)); kernel_rfl; rfl; rfl; (intro F K hK; (with_reducible apply o_load); rfl; (focus (first | ((repeat (first | with_reducible exact Pull.head | with_reducible apply Pull.tail)); done) | (repeat (first | exact Pull.head | apply Pull.tail)))); rfl; rfl; exact hK); (first | ((with_reducible apply TriM.q 11); rfl; rfl) | ((with_reducible apply TriM.qYes 11); rfl; rfl; rfl; with_reducible rfl)); kernel_rfl; rfl; rfl; (intro F K hK; (with_reducible apply o_convI); rfl; rfl; (first | decide | (exact wrap_i64 (by omega)) | (exact wrap_u8 (by omega)) | (exact wrap_u16 (by omega)) | (exact wrap_u32 (by omega)) | (exact wrap_u64 (by omega))); exact hK))
    ((with_reducible apply TriM.setv 51 ((.int .u64 (e.crc : Int)))); (case h => rfl); (case hv => (congr 1; try omega)))
    ((with_reducible apply TriM.a 7); (case ho => rfl); (case hg => rfl); (case hr => kernel_rfl); (try dsimp only [List.cons_append, List.nil_append]))
    ((with_reducible apply o_litSl (ys := [.int .u8 ((UInt8.ofNat e.count.toNat).toNat : Int), .int .u8 ((UInt8.ofNat e.codec.toNat).toNat : Int)])); (case hp => (repeat first | exact pev.nil | (apply pev.cons; case a => rfl))); (case hm => rfl); (case hf => rfl); (case hn => rfl); intro vl)
    ((with_reducible apply TriM.back); (case p => (repeat (first | exact Pulls.nil | (apply Pulls.cons; (case a => (first | ((repeat (first | with_reducible exact Gv.Pull.head | with_reducible apply Gv.Pull.tail)); done) | (repeat (first | exact Gv.Pull.head | apply Gv.Pull.tail)))))))))
    ((with_reducible apply TriM.a 8); (case ho => rfl); (case hg => rfl); (case hr => kernel_rfl); (try dsimp only [List.cons_append, List.nil_append]))
    ((with_reducible apply o_append); (case hx => rfl); (case hy => rfl); (case p => (first | ((repeat (first | with_reducible exact Pull.head | with_reducible apply Pull.tail)); done) | (repeat (first | exact Pull.head | apply Pull.tail)))); (case hr => exact rdw_own (v := vl) (by (first | ((repeat (first | with_reducible exact Pull.head | with_reducible apply Pull.tail)); done) | (repeat (first | exact Pull.head | apply Pull.tail))))); (case hl => rfl); (case h1 => (intro y hy; simp at hy; rcases hy with rfl | rfl <;> rfl)); (case hb => omega); (case hn => rfl))
    intro v5
    obtain ⟨c5, hc5⟩ : ∃ c, c = c4 ++ [UInt8.ofNat e.count.toNat, UInt8.ofNat e.codec.toNat] := ⟨_, rfl⟩
    have hl5 : c5.length = 27 + i * 30 := by rw [hc5, List.length_append, hl4]; simp; omega
    ((with_reducible apply Tri.eqA (A := own 5 1 v5 _ _) (B := own 5 1 v5 c5.length (B8 c5))); (case p => (first | ((repeat (first | with_reducible exact Pull.head | with_reducible apply Pull.tail)); done) | (repeat (first | exact Pull.head | apply Pull.tail)))); (case e => (rw [hc5, B8_append, List.length_append]; rfl)))
    ((with_reducible apply TriM.back); (case p => (repeat (first | exact Pulls.nil | (apply Pulls.cons; (case a => (first | ((repeat (first | with_reducible exact Gv.Pull.head | with_reducible apply Gv.Pull.tail)); done) | (repeat (first | exact Gv.Pull.head | apply Gv.Pull.tail)))))))))
    ((with_reducible apply TriM.a 12); (case ho => rfl); (case hg => rfl); (case hr => kernel_rfl); (try dsimp only [List.cons_append, List.nil_append]))
    ((with_reducible apply o_callS (hs := node_big v5 c5 e.crc 4 (by omega) (by omega))); (case hargs => (repeat first | exact evs.nil | (apply evs.cons; case a => rfl))); (case p => (repeat (first | exact Pulls.nil | (apply Pulls.cons; (case a => (first | ((repeat (first | with_reducible exact Gv.Pull.head | with_reducible apply Gv.Pull.tail)); done) | (repeat (first | exact Gv.Pull.head | apply Gv.Pull.tail)))))))); (case hn => rfl))
    rintro v6 H6 rfl
    have e6 : c5 ++ bigB e.crc 4 = UInt8.ofNat E.length :: entsB E (i + 1) := by
      rw [hc5, hc4, hc3, hc2, hc1, hc0, entsB, ← he, entB]; simp [List.append_assoc]
    rw [e6]
    (try dsimp only [List.cons_append, List.nil_append])
    ((with_reducible apply TriM.back); (case p => (repeat (first | exact Pulls.nil | (apply Pulls.cons; (case a => (first | ((repeat (first | with_reducible exact Gv.Pull.head | with_reducible apply Gv.Pull.tail)); done) | (repeat (first | exact Gv.Pull.head | apply Gv.Pull.tail)))))))))
    ((first | ((with_reducible apply TriM.q 13); rfl; rfl) | ((with_reducible apply TriM.qYes 13); rfl; rfl; rfl; with_reducible rfl)); kernel_rfl; rfl; rfl; (intro F K hK; (with_reducible apply o_assign); rfl; rfl; exact hK))
    ((with_reducible apply TriM.nil); (case hr => kernel_rfl); (try dsimp only [List.cons_append, List.nil_append]))
    ((with_reducible refine Tri.blockN (Tri.thenN (Tri.region ?_))); (with_reducible apply Tri.op); rfl; (with_reducible apply o_add64); rfl; rfl; rfl; (omega); (with_reducible apply Tri.op); rfl; (with_reducible apply o_move); rfl; rfl; (with_reducible refine Tri.nil (Tri.thenN ?_)))
    ((with_reducible apply Tri.again (y := ⟨i + 1, v6, by omega⟩)); (case p => ((try dsimp only); (repeat (first | exact Pulls.nil | (apply Pulls.cons; (case a => (first | ((repeat (first | with_reducible exact Gv.Pull.head | with_reducible apply Gv.Pull.tail)); done) | (repeat (first | exact Gv.Pull.head | apply Gv.Pull.tail))))))))); (case hm => ((try dsimp only); omega)); (try dsimp only))
    (repeat (first | exact trivial | refine And.intro (by rfl) ?_))
  · obtain rfl : i = E.length := by omega
    ((with_reducible refine Tri.exit (Tri.thenE (Tri.thenE (Tri.blockE (Tri.thenN (Tri.seq (Tri.seq (Tri.region ?_)))))))); (with_reducible apply Tri.op); rfl; (with_reducible apply o_fieldAddr); rfl; rfl; (with_reducible apply Tri.op); rfl; (with_reducible apply o_load); rfl; (focus (first | ((repeat (first | with_reducible exact Pull.head | with_reducible apply Pull.tail)); done) | (repeat (first | exact Pull.head | apply Pull.tail)))); rfl; rfl; (with_reducible apply Tri.op); rfl)
    ((with_reducible apply o_lenRd (hr := hr2)); (case hx => rfl); (case hn => rfl))
    ((with_reducible apply Tri.op); rfl; (with_reducible apply o_move); rfl; rfl; (with_reducible refine Tri.nil (Tri.thenN (Tri.block ?_))))
    ((first | with_reducible apply Tri.loop (α := Unit) (m := fun _ => 0) (Lx := fun _ => [(1, .pointer (some ⟨b1, 0, none⟩)), (4, u), (55, dv), (56, .int .i64 0), (57, .int .i64 0)]) (Hx := fun _ => [own 5 1 u c0.length (B8 c0), blk b1 33 (ndLL true ev kv dv), Ex (hp w)]) (x0 := ()) | with_reducible apply TriR.loop (α := Unit) (m := fun _ => 0) (Lx := fun _ => [(1, .pointer (some ⟨b1, 0, none⟩)), (4, u), (55, dv), (56, .int .i64 0), (57, .int .i64 0)]) (Hx := fun _ => [own 5 1 u c0.length (B8 c0), blk b1 33 (ndLL true ev kv dv), Ex (hp w)]) (x0 := ())); (case hL => ((try dsimp only); (repeat (first | exact trivial | refine And.intro (by rfl) ?_)))); (case hH => ((try dsimp only); apply St.all; (repeat (first | exact Pulls.nil | (apply Pulls.cons; (case a => (first | ((repeat (first | with_reducible exact Gv.Pull.head | with_reducible apply Gv.Pull.tail)); done) | (repeat (first | exact Gv.Pull.head | apply Gv.Pull.tail)))))))))); (rintro ⟨⟩ mx hmx; (try dsimp only at hmx ⊢))
    ((with_reducible refine Tri.seq (Tri.region ?_)); (with_reducible apply Tri.op); rfl; (with_reducible apply o_lss); rfl; rfl; rfl; (with_reducible refine Tri.nil (Tri.thenN (Tri.seq ?_))))
    ((first | with_reducible apply Tri.condD | with_reducible apply TriR.condD); (case hc => rfl); (all_goals intro hz))
    · omega
    ((with_reducible refine Tri.exit (Tri.thenE (Tri.thenE (Tri.blockE (Tri.thenN (Tri.seq (Tri.region ?_))))))); (with_reducible apply Tri.op); rfl; (with_reducible apply o_move); rfl; rfl; (with_reducible apply Tri.op); rfl; (with_reducible apply o_assign); rfl; rfl; (with_reducible apply Tri.op); rfl; (with_reducible apply o_assign); rfl; rfl; (with_reducible refine Tri.nil (Tri.thenN (Tri.ret ?_))))
    ((with_reducible apply Tri.eqA (A := own 5 1 u _ _) (B := own 5 1 u (putN true E [] []).length (B8 (putN true E [] [])))); (case p => (first | ((repeat (first | with_reducible exact Pull.head | with_reducible apply Pull.tail)); done) | (repeat (first | exact Pull.head | apply Pull.tail)))); (case e => (rw [hc0]; rfl)))
    ((first | with_reducible apply Tri.fin | with_reducible apply Tri.finN); (case hr => rfl); (case h => exact ResL.cons (Res1.tmp rfl) (ResL.cons (Res1.tmp rfl) (ResL.nil))); (apply fin_R (Hn := [own 5 1 u (putN true E [] []).length (B8 (putN true E [] []))])); (case p => exact (by (repeat (first | exact Pulls.nil | (apply Pulls.cons; (case a => (first | ((repeat (first | with_reducible exact Gv.Pull.head | with_reducible apply Gv.Pull.tail)); done) | (repeat (first | exact Gv.Pull.head | apply Gv.Pull.tail))))))))); exact ⟨u, rfl, rfl⟩)
theorem node_PutN (leaf : Bool) (ev kv dv : Value) (E : List ENT) (K : List KEY) (D : List Int) (h : rightN leaf E K D = true) (hR : ∀ e ∈ E, entR e) : SpecR Try.prog 53 #[ndW leaf ev kv dv] (fun w => ndR w ev kv dv E K D) (fun r H' => ∃ u, r = .tuple #[u, .int .i64 0] ∧ H' = [own 5 1 u (putN leaf E K D).length (B8 (putN leaf E K D))]) := by
  cases leaf
  · exact node_Put_inner ev kv dv E K D h
  · exact node_Put_leaf ev kv dv E K D h hR

set_option maxHeartbeats 4000000 in
theorem node_entry (r : Nat) (u : Value) (l : List UInt8) (h1 : PH) (hr : Rd h1 u l.length (B8 l)) (hs : 30 ≤ l.length) : Gv.Spec Try.prog 87 #[.pointer (some ⟨r, 0, none⟩)] [blk r 179 [u], Ex h1]
    (fun x H' => x = entV (entP l) ∧ ∃ A c, Rd h1 (.slice A (l.drop 30).length c) (l.drop 30).length (B8 (l.drop 30)) ∧ H' = [blk r 179 [.slice A (l.drop 30).length c], Ex h1]) := by
  refine Gv.Spec.of (fun w h0 hw => ?_)
  refine Calls.enter Try.func87 rfl rfl rfl hw ?_
  simp only [argSlots]
  (try dsimp only [List.cons_append, List.nil_append])
  have hb : ∀ a m, a + m ≤ 30 → numB ((l.drop a).take m) < 256 ^ m := fun a m h => by
    have := numB_lt ((l.drop a).take m)
    rwa [show ((l.drop a).take m).length = m by rw [List.length_take, List.length_drop]; omega] at this
  have q1 := hb 12 8 (by omega)
  have q2 := hb 20 2 (by omega)
  have q3 := hb 22 2 (by omega)
  have q4 := hb 24 1 (by omega)
  have q5 := hb 25 1 (by omega)
  have q6 := hb 26 4 (by omega)
  ((with_reducible refine Tri.seq (Tri.region ?_)); (with_reducible apply Tri.op); rfl)
  ((with_reducible apply o_alloc); (case hn => rfl); intro b2)
  ((with_reducible refine Tri.nil (Tri.thenN (Tri.seq (Tri.region ?_)))); (with_reducible apply Tri.op); rfl; (with_reducible apply o_move); rfl; rfl; (with_reducible apply Tri.op); rfl)
  ((with_reducible apply o_callS (hs := node_key r u l h1 hr (by omega))); (case hargs => (repeat first | exact evs.nil | (apply evs.cons; case a => rfl))); (case p => (repeat (first | exact Pulls.nil | (apply Pulls.cons; (case a => (first | ((repeat (first | with_reducible exact Gv.Pull.head | with_reducible apply Gv.Pull.tail)); done) | (repeat (first | exact Gv.Pull.head | apply Gv.Pull.tail)))))))); (case hn => rfl))
  rintro x1 H1 ⟨rfl, A1, c1, hr1, rfl⟩
  (try dsimp only [List.cons_append, List.nil_append])
  ((with_reducible apply Tri.op); rfl; (with_reducible apply o_move); rfl; rfl; (with_reducible apply Tri.op); rfl)
  ((with_reducible apply o_callS (hs := node_take r (.slice A1 (l.drop 12).length c1) (l.drop 12) 8 h1 hr1 (by rw [List.length_drop]; omega) (by omega))); (case hargs => (repeat first | exact evs.nil | (apply evs.cons; case a => rfl))); (case p => (repeat (first | exact Pulls.nil | (apply Pulls.cons; (case a => (first | ((repeat (first | with_reducible exact Gv.Pull.head | with_reducible apply Gv.Pull.tail)); done) | (repeat (first | exact Gv.Pull.head | apply Gv.Pull.tail)))))))); (case hn => rfl))
  rintro x2 H2 ⟨rfl, A2, c2, hr2, rfl⟩
  simp only [List.drop_drop, Nat.reduceAdd] at hr2 ⊢
  (try dsimp only [List.cons_append, List.nil_append])
  ((with_reducible apply Tri.op); rfl; (with_reducible apply o_conv); rfl; rfl; (with_reducible apply Tri.op); rfl)
  ((with_reducible apply Tri.seti 8 ((s64 (numB ((l.drop 12).take 8))))); (case h => rfl); (case hi => exact s64_wrap _ (by omega)))
  ((with_reducible apply o_build (ys := [.int .i64 (entP l).key.1, .int .i64 (entP l).key.2, .int .i64 (entP l).fin, .int .i64 0, .int .i64 0, .int .i64 0, .int .i64 0, .int .u32 0])); (case hp => (repeat first | exact pev.nil | (apply pev.cons; case a => rfl))); (case hf => rfl); (case hn => rfl))
  ((with_reducible apply Tri.op); rfl)
  ((with_reducible apply o_alloc); (case hn => rfl); intro b3)
  ((with_reducible apply Tri.op); rfl)
  ((with_reducible apply o_storeAll (ys := [.int .i64 (entP l).key.1, .int .i64 (entP l).key.2, .int .i64 (entP l).fin, .int .i64 0, .int .i64 0, .int .i64 0, .int .i64 0, .int .u32 0])); (case hx => rfl); (case hy => rfl); (case p => (first | ((repeat (first | with_reducible exact Pull.head | with_reducible apply Pull.tail)); done) | (repeat (first | exact Pull.head | apply Pull.tail)))); (case hl => rfl); (case hc => rfl); (case h1 => (intro y hy; simp at hy; rcases hy with rfl | rfl | rfl | rfl | rfl <;> rfl)))
  ((with_reducible refine Tri.nil (Tri.thenN (Tri.seq (Tri.region ?_)))); (with_reducible apply Tri.op); rfl; (with_reducible apply o_move); rfl; rfl; (with_reducible apply Tri.op); rfl)
  ((with_reducible apply o_callS (hs := node_take r (.slice A2 (l.drop 20).length c2) (l.drop 20) 2 h1 hr2 (by rw [List.length_drop]; omega) (by omega))); (case hargs => (repeat first | exact evs.nil | (apply evs.cons; case a => rfl))); (case p => (repeat (first | exact Pulls.nil | (apply Pulls.cons; (case a => (first | ((repeat (first | with_reducible exact Gv.Pull.head | with_reducible apply Gv.Pull.tail)); done) | (repeat (first | exact Gv.Pull.head | apply Gv.Pull.tail)))))))); (case hn => rfl))
  rintro x3 H3 ⟨rfl, A3, c3, hr3, rfl⟩
  simp only [List.drop_drop, Nat.reduceAdd] at hr3 ⊢
  (try dsimp only [List.cons_append, List.nil_append])
  ((with_reducible apply Tri.op); rfl; (with_reducible apply o_convI); rfl; rfl; (first | decide | (exact wrap_i64 (by omega)) | (exact wrap_u8 (by omega)) | (exact wrap_u16 (by omega)) | (exact wrap_u32 (by omega)) | (exact wrap_u64 (by omega))); (with_reducible apply Tri.op); rfl; (with_reducible apply o_move); rfl; rfl; (with_reducible apply Tri.op); rfl)
  ((with_reducible apply o_callS (hs := node_take r (.slice A3 (l.drop 22).length c3) (l.drop 22) 2 h1 hr3 (by rw [List.length_drop]; omega) (by omega))); (case hargs => (repeat first | exact evs.nil | (apply evs.cons; case a => rfl))); (case p => (repeat (first | exact Pulls.nil | (apply Pulls.cons; (case a => (first | ((repeat (first | with_reducible exact Gv.Pull.head | with_reducible apply Gv.Pull.tail)); done) | (repeat (first | exact Gv.Pull.head | apply Gv.Pull.tail)))))))); (case hn => rfl))
  rintro x4 H4 ⟨rfl, A4, c4, hr4, rfl⟩
  simp only [List.drop_drop, Nat.reduceAdd] at hr4 ⊢
  (try dsimp only [List.cons_append, List.nil_append])
  ((with_reducible apply Tri.op); rfl; (with_reducible apply o_convI); rfl; rfl; (first | decide | (exact wrap_i64 (by omega)) | (exact wrap_u8 (by omega)) | (exact wrap_u16 (by omega)) | (exact wrap_u32 (by omega)) | (exact wrap_u64 (by omega))); (with_reducible apply Tri.op); rfl; (with_reducible apply o_fieldAddr); rfl; rfl; (with_reducible apply Tri.op); rfl)
  ((with_reducible apply o_store); (case hx => rfl); (case hy => rfl); (case h1 => rfl); (case p => (first | ((repeat (first | with_reducible exact Pull.head | with_reducible apply Pull.tail)); done) | (repeat (first | exact Pull.head | apply Pull.tail)))); (case hi => (show 3 < 8; omega)))
  ((with_reducible apply Tri.op); rfl; (with_reducible apply o_fieldAddr); rfl; rfl; (with_reducible apply Tri.op); rfl)
  ((with_reducible apply o_store); (case hx => rfl); (case hy => rfl); (case h1 => rfl); (case p => (first | ((repeat (first | with_reducible exact Pull.head | with_reducible apply Pull.tail)); done) | (repeat (first | exact Pull.head | apply Pull.tail)))); (case hi => (show 4 < 8; omega)))
  ((with_reducible refine Tri.nil (Tri.thenN (Tri.seq (Tri.region ?_)))); (with_reducible apply Tri.op); rfl; (with_reducible apply o_move); rfl; rfl; (with_reducible apply Tri.op); rfl)
  ((with_reducible apply o_callS (hs := node_take r (.slice A4 (l.drop 24).length c4) (l.drop 24) 1 h1 hr4 (by rw [List.length_drop]; omega) (by omega))); (case hargs => (repeat first | exact evs.nil | (apply evs.cons; case a => rfl))); (case p => (repeat (first | exact Pulls.nil | (apply Pulls.cons; (case a => (first | ((repeat (first | with_reducible exact Gv.Pull.head | with_reducible apply Gv.Pull.tail)); done) | (repeat (first | exact Gv.Pull.head | apply Gv.Pull.tail)))))))); (case hn => rfl))
  rintro x5 H5 ⟨rfl, A5, c5, hr5, rfl⟩
  simp only [List.drop_drop, Nat.reduceAdd] at hr5 ⊢
  (try dsimp only [List.cons_append, List.nil_append])
  ((with_reducible apply Tri.op); rfl; (with_reducible apply o_convI); rfl; rfl; (first | decide | (exact wrap_i64 (by omega)) | (exact wrap_u8 (by omega)) | (exact wrap_u16 (by omega)) | (exact wrap_u32 (by omega)) | (exact wrap_u64 (by omega))); (with_reducible apply Tri.op); rfl; (with_reducible apply o_move); rfl; rfl; (with_reducible apply Tri.op); rfl)
  ((with_reducible apply o_callS (hs := node_take r (.slice A5 (l.drop 25).length c5) (l.drop 25) 1 h1 hr5 (by rw [List.length_drop]; omega) (by omega))); (case hargs => (repeat first | exact evs.nil | (apply evs.cons; case a => rfl))); (case p => (repeat (first | exact Pulls.nil | (apply Pulls.cons; (case a => (first | ((repeat (first | with_reducible exact Gv.Pull.head | with_reducible apply Gv.Pull.tail)); done) | (repeat (first | exact Gv.Pull.head | apply Gv.Pull.tail)))))))); (case hn => rfl))
  rintro x6 H6 ⟨rfl, A6, c6, hr6, rfl⟩
  simp only [List.drop_drop, Nat.reduceAdd] at hr6 ⊢
  (try dsimp only [List.cons_append, List.nil_append])
  ((with_reducible apply Tri.op); rfl; (with_reducible apply o_convI); rfl; rfl; (first | decide | (exact wrap_i64 (by omega)) | (exact wrap_u8 (by omega)) | (exact wrap_u16 (by omega)) | (exact wrap_u32 (by omega)) | (exact wrap_u64 (by omega))); (with_reducible apply Tri.op); rfl; (with_reducible apply o_fieldAddr); rfl; rfl; (with_reducible apply Tri.op); rfl)
  ((with_reducible apply o_store); (case hx => rfl); (case hy => rfl); (case h1 => rfl); (case p => (first | ((repeat (first | with_reducible exact Pull.head | with_reducible apply Pull.tail)); done) | (repeat (first | exact Pull.head | apply Pull.tail)))); (case hi => (show 5 < 8; omega)))
  ((with_reducible apply Tri.op); rfl; (with_reducible apply o_fieldAddr); rfl; rfl; (with_reducible apply Tri.op); rfl)
  ((with_reducible apply o_store); (case hx => rfl); (case hy => rfl); (case h1 => rfl); (case p => (first | ((repeat (first | with_reducible exact Pull.head | with_reducible apply Pull.tail)); done) | (repeat (first | exact Pull.head | apply Pull.tail)))); (case hi => (show 6 < 8; omega)))
  ((with_reducible refine Tri.nil (Tri.thenN (Tri.seq (Tri.region ?_)))); (with_reducible apply Tri.op); rfl; (with_reducible apply o_move); rfl; rfl; (with_reducible apply Tri.op); rfl)
  ((with_reducible apply o_callS (hs := node_take r (.slice A6 (l.drop 26).length c6) (l.drop 26) 4 h1 hr6 (by rw [List.length_drop]; omega) (by omega))); (case hargs => (repeat first | exact evs.nil | (apply evs.cons; case a => rfl))); (case p => (repeat (first | exact Pulls.nil | (apply Pulls.cons; (case a => (first | ((repeat (first | with_reducible exact Gv.Pull.head | with_reducible apply Gv.Pull.tail)); done) | (repeat (first | exact Gv.Pull.head | apply Gv.Pull.tail)))))))); (case hn => rfl))
  rintro x7 H7 ⟨rfl, A7, c7, hr7, rfl⟩
  simp only [List.drop_drop, Nat.reduceAdd] at hr7 ⊢
  (try dsimp only [List.cons_append, List.nil_append])
  ((with_reducible apply Tri.op); rfl; (with_reducible apply o_convI); rfl; rfl; (first | decide | (exact wrap_i64 (by omega)) | (exact wrap_u8 (by omega)) | (exact wrap_u16 (by omega)) | (exact wrap_u32 (by omega)) | (exact wrap_u64 (by omega))); (with_reducible apply Tri.op); rfl; (with_reducible apply o_fieldAddr); rfl; rfl; (with_reducible apply Tri.op); rfl)
  ((with_reducible apply o_store); (case hx => rfl); (case hy => rfl); (case h1 => rfl); (case p => (first | ((repeat (first | with_reducible exact Pull.head | with_reducible apply Pull.tail)); done) | (repeat (first | exact Pull.head | apply Pull.tail)))); (case hi => (show 7 < 8; omega)))
  ((with_reducible refine Tri.nil (Tri.thenN (Tri.seq (Tri.region ?_)))); (with_reducible apply Tri.op); rfl)
  ((with_reducible apply Tri.eqA (A := blk b3 _ _) (B := blk b3 100 (entL (entP l)))); (case p => (first | ((repeat (first | with_reducible exact Pull.head | with_reducible apply Pull.tail)); done) | (repeat (first | exact Pull.head | apply Pull.tail)))); (case e => rfl))
  ((with_reducible apply o_loadAll (cs := entL (entP l))); (case hx => rfl); (case p => (first | ((repeat (first | with_reducible exact Pull.head | with_reducible apply Pull.tail)); done) | (repeat (first | exact Pull.head | apply Pull.tail)))); (case hl => rfl); (case hn => rfl))
  ((with_reducible apply Tri.op); rfl)
  ((with_reducible apply o_storeAll (ys := entL (entP l))); (case hx => rfl); (case hy => rfl); (case p => (first | ((repeat (first | with_reducible exact Pull.head | with_reducible apply Pull.tail)); done) | (repeat (first | exact Pull.head | apply Pull.tail)))); (case hl => rfl); (case hc => rfl); (case h1 => exact entL_one _))
  ((with_reducible refine Tri.nil (Tri.thenN (Tri.ret ?_))))
  ((first | with_reducible apply Tri.fin | with_reducible apply Tri.finN); (case hr => rfl); (case h => exact ResL.cons ((Res1.agg rfl (by (first | ((repeat (first | with_reducible exact Pull.head | with_reducible apply Pull.tail)); done) | (repeat (first | exact Pull.head | apply Pull.tail)))) (by rw [List.drop_zero]; exact List.take_of_length_le (Nat.le_of_eq (entL_len (entP l)))) (entL_len (entP l)))) (ResL.nil)); (apply fin_R (Hn := [blk r 179 [.slice A7 (l.drop 30).length c7], Ex h1])); (case p => exact (by (repeat (first | exact Pulls.nil | (apply Pulls.cons; (case a => (first | ((repeat (first | with_reducible exact Gv.Pull.head | with_reducible apply Gv.Pull.tail)); done) | (repeat (first | exact Gv.Pull.head | apply Gv.Pull.tail))))))))); exact ⟨rfl, A7, c7, hr7, rfl⟩)
end Go.Proofs.Ytckdlfbbkemklaa
