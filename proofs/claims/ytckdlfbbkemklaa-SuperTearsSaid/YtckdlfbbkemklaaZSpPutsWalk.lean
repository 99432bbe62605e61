import Derived.Test.YtckdlfbbkemklaaZSpWalk2
import Derived.Test.YtckdlfbbkemklaaZSpLaw2
import Derived.Test.YtckdlfbbkemklaaZPgWalk3
import Derived.Test.YtckdlfbbkemklaaZGvLaw
/- super: of all supers the bytes are told, or that they can't be; of all bytes the super: the walk. -/
namespace Go.Proofs.Ytckdlfbbkemklaa
open Go Go.RowKit Go.Gv
set_option linter.unusedVariables false
set_option linter.unusedSimpArgs false

theorem sp_alk (s : SP) : Alk [.int .u64 0, .int .i64 0, .int .i64 0, .int .i64 0, .int .i64 0] (spL s) := ⟨rfl, rfl, rfl, rfl, rfl, trivial⟩
theorem spL_inj {s t : SP} (h : spL s = spL t) : s = t := by
  cases s; cases t
  simp only [spL, List.cons.injEq, Value.int.injEq, true_and, and_true] at h
  obtain ⟨h1, h2, h3, h4, h5⟩ := h
  simp only [SP.mk.injEq]
  exact ⟨by omega, h2, h3, h4, h5⟩
theorem nil_rd15 (h : PH) : Rd h (.slice none 0 0) ([] : List UInt8).length (B8 []) := ⟨none, 0, rfl, ⟨Nat.le_refl _, Nat.zero_le _⟩, fun j u hu => by simp [B8] at hu⟩
set_option maxHeartbeats 8000000 in
theorem superPuts_walk (w : World) (s : SP) (hg : s.gen < 18446744073709551616) (A : Option Addr) (l : List UInt8) (c : Nat) (hr : RdW w (.slice A l.length c) l.length (B8 l)) :
    Calls Try.prog 4 #[spV s, .slice A l.length c] w (Ret (LawR w)) := by
  have hlen := hr.le
  refine Calls.enter Try.func4 rfl rfl rfl (St.rebase w) ?_
  simp only [argSlots]
  obtain ⟨m, hm⟩ : ∃ m, m = min l.length 40 := ⟨_, rfl⟩
  have hml : m ≤ l.length := by omega
  have q1 := sub_rd hr 0 m (by omega) hml
  obtain ⟨v', hv'⟩ : ∃ v', v' = subv (.slice A l.length c) 1 0 m := ⟨_, rfl⟩
  rw [← hv', List.drop_zero, Nat.sub_zero] at q1
  ((with_reducible refine Tri.seq (Tri.region ?_)); (with_reducible apply Tri.op); rfl)
  (first | ((with_reducible apply o_boxA); (case hx => rfl); (case hn => rfl); intro b2) | ((with_reducible apply o_box1); (case hx => rfl); (case h1 => rfl); (case hn => rfl); intro b2))
  ((with_reducible apply Tri.op); rfl; (with_reducible apply o_assign); rfl; rfl; (with_reducible refine Tri.nil (Tri.thenN (Tri.seq (Tri.region ?_)))); (with_reducible apply Tri.op); rfl)
  ((with_reducible apply o_loadAll (cs := spL s)); (case hx => rfl); (case p => exact (by (first | ((repeat (first | with_reducible exact Pull.head | with_reducible apply Pull.tail)); done) | (repeat (first | exact Pull.head | apply Pull.tail))))); (case hl => rfl); (case hn => rfl))
  ((with_reducible apply Tri.op); rfl)
  ((with_reducible apply o_callV (hs := law15_to s)); (case hargs => (repeat first | exact evs.nil | (apply evs.cons; case a => rfl))); (case hpre => exact fun _ _ => trivial); (case hn => rfl))
  ((with_reducible apply Tri.op); rfl)
  by_cases hok : okS s = true
  · ((with_reducible apply o_callR (hs := super_Put s hok hg)); (case hargs => (repeat first | exact evs.nil | (apply evs.cons; case a => rfl))); (case hpre => exact fun _ _ => trivial); (case hn => rfl))
    rintro r1 H1 ⟨u, rfl, rfl⟩
    (try dsimp only [List.cons_append, List.nil_append])
    ((with_reducible apply Tri.op); rfl; (with_reducible apply o_move); rfl; rfl; (with_reducible apply Tri.op); rfl; (with_reducible apply o_extract); rfl; rfl; rfl; (with_reducible apply Tri.op); rfl; (with_reducible apply o_extract); rfl; rfl; rfl; (with_reducible apply Tri.op); rfl; (with_reducible apply o_assign); rfl; rfl; (with_reducible apply Tri.op); rfl; (with_reducible apply o_assign); rfl; rfl; (with_reducible refine Tri.nil (Tri.thenN (Tri.seq (Tri.seq (Tri.region ?_))))); (with_reducible apply Tri.op); rfl)
    ((with_reducible apply o_callV (hs := law15_counts)); (case hargs => (repeat first | exact evs.nil | (apply evs.cons; case a => rfl))); (case hpre => exact fun _ _ => trivial); (case hn => rfl))
    ((with_reducible apply Tri.op); rfl; (with_reducible apply o_not); rfl; rfl; (with_reducible apply Tri.op); rfl; (with_reducible apply o_move); rfl; rfl)
    ((with_reducible apply Tri.setb 19 (false)); (case h => rfl); (case hi => rfl))
    ((with_reducible apply Tri.opYes); rfl; rfl; rfl; (with_reducible apply o_move); rfl; rfl; (with_reducible apply Tri.opYes); rfl; rfl; rfl; (with_reducible apply o_eql); rfl; rfl; rfl; (with_reducible apply Tri.opYes); rfl; rfl; rfl)
    ((with_reducible apply o_loadAll (cs := spL s)); (case hx => rfl); (case p => exact (by (first | ((repeat (first | with_reducible exact Pull.head | with_reducible apply Pull.tail)); done) | (repeat (first | exact Pull.head | apply Pull.tail))))); (case hl => rfl); (case hn => rfl))
    ((with_reducible apply Tri.opYes); rfl; rfl; rfl)
    ((with_reducible apply o_callV (hs := ref15_Right s)); (case hargs => (repeat first | exact evs.nil | (apply evs.cons; case a => rfl))); (case hpre => exact fun _ _ => trivial); (case hn => rfl))
    rw [hok]
    ((with_reducible apply Tri.opYes); rfl; rfl; rfl; (with_reducible apply o_neqB); rfl; rfl; rfl; (with_reducible apply Tri.op); rfl; (with_reducible apply o_pickF); (iterate 4 rfl); (with_reducible apply Tri.op); rfl; (with_reducible apply o_move); rfl; rfl)
    ((with_reducible apply Tri.setb 26 (false)); (case h => rfl); (case hi => rfl))
    ((with_reducible apply Tri.opYes); rfl; rfl; rfl; (with_reducible apply o_move); rfl; rfl; (with_reducible apply Tri.opYes); rfl; rfl; rfl; (with_reducible apply o_neq); rfl; rfl; rfl; (with_reducible apply Tri.opYes); rfl; rfl; rfl; (with_reducible apply o_move); rfl; rfl)
    ((with_reducible apply Tri.setb 29 (false)); (case h => rfl); (case hi => rfl))
    ((iterate 2 (with_reducible apply Tri.opNo (c := false)); (iterate 6 rfl)); (with_reducible apply Tri.opYes); rfl; rfl; rfl; (with_reducible apply o_pickF); (iterate 4 rfl); (with_reducible apply Tri.op); rfl; (with_reducible apply o_pickF); (iterate 4 rfl); (with_reducible refine Tri.nil (Tri.thenN ?_)); (with_reducible apply Tri.condF); rfl; rfl; (with_reducible refine Tri.skip (Tri.thenN (Tri.seq (Tri.seq (Tri.region ?_))))); (with_reducible apply Tri.op); rfl; (with_reducible apply o_move); rfl; rfl; (with_reducible apply Tri.op); rfl; (with_reducible apply o_eql); rfl; rfl; rfl; (with_reducible refine Tri.nil (Tri.thenN ?_)))
    ((with_reducible apply Tri.setb 35 (true)); (case h => rfl); (case hi => rfl))
    ((with_reducible apply Tri.condT); rfl; rfl; (with_reducible refine Tri.seq (Tri.region ?_)); (with_reducible apply Tri.op); rfl; (with_reducible apply o_move); rfl; rfl; (with_reducible apply Tri.op); rfl)
    ((with_reducible apply o_callR (hs := super_Get u (putS s))); (case hargs => (repeat first | exact evs.nil | (apply evs.cons; case a => rfl))); (case hpre => exact (by rw [putS_length]; exact rdw_own (by (first | ((repeat (first | with_reducible exact Pull.head | with_reducible apply Pull.tail)); done) | (repeat (first | exact Pull.head | apply Pull.tail)))))); (case hn => rfl))
    rintro r2 H2 ⟨rfl, rfl⟩
    rw [get_putS hok hg]
    (try dsimp only [List.cons_append, List.nil_append])
    ((with_reducible apply Tri.op); rfl; (with_reducible apply o_move); rfl; rfl; (with_reducible apply Tri.op); rfl; (with_reducible apply o_extract); rfl; rfl; rfl; (with_reducible apply Tri.op); rfl; (with_reducible apply o_extract); rfl; rfl; rfl; (with_reducible apply Tri.op); rfl)
    ((with_reducible apply o_alloc); (case hn => rfl); intro b7)
    ((with_reducible apply Tri.op); rfl)
    ((with_reducible apply o_storeAll (ys := spL s)); (case hx => rfl); (case hy => rfl); (case p => (first | ((repeat (first | with_reducible exact Pull.head | with_reducible apply Pull.tail)); done) | (repeat (first | exact Pull.head | apply Pull.tail)))); (case hl => rfl); (case hc => rfl); (case h1 => exact spL_one s))
    ((with_reducible apply Tri.op); rfl; (with_reducible apply o_assign); rfl; rfl; (with_reducible refine Tri.nil (Tri.thenN (Tri.seq ?_))))
    ((first | with_reducible apply Tri.mix [own 5 1 u 15 (B8 (putS s)), blk b7 50 (spL s), blk b2 42 (spL s)] | ((with_reducible apply TriR.mix [own 5 1 u 15 (B8 (putS s)), blk b7 50 (spL s), blk b2 42 (spL s)]); (case hnd => rfl))); (case p => (repeat (first | exact Pulls.nil | (apply Pulls.cons; (case a => (first | ((repeat (first | with_reducible exact Gv.Pull.head | with_reducible apply Gv.Pull.tail)); done) | (repeat (first | exact Gv.Pull.head | apply Gv.Pull.tail)))))))); (dsimp only [List.length]))
    ((first | ((with_reducible apply TriM.q 0); rfl; rfl) | ((with_reducible apply TriM.qYes 0); rfl; rfl; rfl; with_reducible rfl)); kernel_rfl; rfl; rfl; (intro F K hK; (with_reducible apply o_move); rfl; rfl; exact hK))
    ((first | ((with_reducible apply TriM.q 1); (case ho => rfl); (case hg => rfl)) | ((with_reducible apply TriM.qYes 1); (case ho => rfl); (case hg => rfl); (case hyl => rfl); (case hb => with_reducible rfl))); (case hB => kernel_rfl); (case hd => rfl); (case hn => rfl); (case h => (intro F K hK; ((with_reducible apply o_bytesStr (l := putS s)); (case he => exact Try.underlying5); (case hx => rfl); (case hr => (rw [putS_length]; exact rdw_own (by (first | ((repeat (first | with_reducible exact Pull.head | with_reducible apply Pull.tail)); done) | (repeat (first | exact Pull.head | apply Pull.tail)))))); (case hn => rfl)); exact hK)))
    ((first | ((with_reducible apply TriM.q 2); (case ho => rfl); (case hg => rfl)) | ((with_reducible apply TriM.qYes 2); (case ho => rfl); (case hg => rfl); (case hyl => rfl); (case hb => with_reducible rfl))); (case hB => kernel_rfl); (case hd => rfl); (case hn => rfl); (case h => (intro F K hK; ((with_reducible apply o_loadAll (cs := spL s)); (case hx => rfl); (case p => exact (by (first | ((repeat (first | with_reducible exact Pull.head | with_reducible apply Pull.tail)); done) | (repeat (first | exact Pull.head | apply Pull.tail))))); (case hl => rfl); (case hn => rfl)); exact hK)))
    ((with_reducible apply TriM.a 3); (case ho => rfl); (case hg => rfl); (case hr => kernel_rfl); (try dsimp only [List.cons_append, List.nil_append]))
    ((with_reducible apply o_callR (hs := ref15_Put s hok hg)); (case hargs => (repeat first | exact evs.nil | (apply evs.cons; case a => rfl))); (case hpre => exact fun _ _ => trivial); (case hn => rfl))
    rintro r3 H3 ⟨v, rfl, rfl⟩
    (try dsimp only [List.cons_append, List.nil_append])
    ((with_reducible apply TriM.back); (case p => (repeat (first | exact Pulls.nil | (apply Pulls.cons; (case a => (first | ((repeat (first | with_reducible exact Gv.Pull.head | with_reducible apply Gv.Pull.tail)); done) | (repeat (first | exact Gv.Pull.head | apply Gv.Pull.tail)))))))))
    ((with_reducible apply TriM.a 4); (case ho => rfl); (case hg => rfl); (case hr => kernel_rfl); (try dsimp only [List.cons_append, List.nil_append]))
    ((with_reducible apply o_bytesStr (l := putS s)); (case he => exact Try.underlying5); (case hx => rfl); (case hr => (rw [putS_length]; exact rdw_own (by (first | ((repeat (first | with_reducible exact Pull.head | with_reducible apply Pull.tail)); done) | (repeat (first | exact Pull.head | apply Pull.tail)))))); (case hn => rfl))
    ((with_reducible apply TriM.back); (case p => (repeat (first | exact Pulls.nil | (apply Pulls.cons; (case a => (first | ((repeat (first | with_reducible exact Gv.Pull.head | with_reducible apply Gv.Pull.tail)); done) | (repeat (first | exact Gv.Pull.head | apply Gv.Pull.tail)))))))))
    ((first | ((with_reducible apply TriM.q 5); rfl; rfl) | ((with_reducible apply TriM.qYes 5); rfl; rfl; rfl; with_reducible rfl)); kernel_rfl; rfl; rfl; (intro F K hK; (with_reducible apply o_neqS); rfl; rfl; rfl; exact hK))
    ((first | ((with_reducible apply TriM.q 6); rfl; rfl) | ((with_reducible apply TriM.qYes 6); rfl; rfl; rfl; with_reducible rfl)); kernel_rfl; rfl; rfl; (intro F K hK; (with_reducible apply o_move); rfl; rfl; exact hK))
    ((with_reducible apply TriM.setb 47 (false)); (case h => rfl); (case hi => simp))
    ((first | ((with_reducible apply TriM.q 7); rfl; rfl) | ((with_reducible apply TriM.qYes 7); rfl; rfl; rfl; with_reducible rfl)); kernel_rfl; rfl; rfl; (intro F K hK; (with_reducible apply o_move); rfl; rfl; exact hK); (first | ((with_reducible apply TriM.q 8); rfl; rfl) | ((with_reducible apply TriM.qYes 8); rfl; rfl; rfl; with_reducible rfl)); kernel_rfl; rfl; rfl; (intro F K hK; (with_reducible apply o_neq); rfl; rfl; rfl; exact hK))
    ((with_reducible apply TriM.setb 49 (false)); (case h => rfl); (case hi => rfl))
    ((first | ((with_reducible apply TriM.q 9); rfl; rfl) | ((with_reducible apply TriM.qYes 9); rfl; rfl; rfl; with_reducible rfl)); kernel_rfl; rfl; rfl; (intro F K hK; (with_reducible apply o_pickF); (iterate 4 rfl); exact hK); (first | ((with_reducible apply TriM.q 10); rfl; rfl) | ((with_reducible apply TriM.qYes 10); rfl; rfl; rfl; with_reducible rfl)); kernel_rfl; rfl; rfl; (intro F K hK; (with_reducible apply o_move); rfl; rfl; exact hK))
    ((first | ((with_reducible apply TriM.q 11); (case ho => rfl); (case hg => rfl)) | ((with_reducible apply TriM.qYes 11); (case ho => rfl); (case hg => rfl); (case hyl => rfl); (case hb => with_reducible rfl))); (case hB => kernel_rfl); (case hd => rfl); (case hn => rfl); (case h => (intro F K hK; ((with_reducible apply o_loadAll (cs := spL s)); (case hx => rfl); (case p => exact (by (first | ((repeat (first | with_reducible exact Pull.head | with_reducible apply Pull.tail)); done) | (repeat (first | exact Pull.head | apply Pull.tail))))); (case hl => rfl); (case hn => rfl)); exact hK)))
    ((first | ((with_reducible apply TriM.q 12); (case ho => rfl); (case hg => rfl)) | ((with_reducible apply TriM.qYes 12); (case ho => rfl); (case hg => rfl); (case hyl => rfl); (case hb => with_reducible rfl))); (case hB => kernel_rfl); (case hd => rfl); (case hn => rfl); (case h => (intro F K hK; (with_reducible apply o_callV (hs := law15_from s)); (case hargs => (repeat first | exact evs.nil | (apply evs.cons; case a => rfl))); (case hpre => exact fun _ _ => trivial); (case hn => rfl); exact hK)))
    ((first | ((with_reducible apply TriM.q 13); (case ho => rfl); (case hg => rfl)) | ((with_reducible apply TriM.qYes 13); (case ho => rfl); (case hg => rfl); (case hyl => rfl); (case hb => with_reducible rfl))); (case hB => kernel_rfl); (case hd => rfl); (case hn => rfl); (case h => (intro F K hK; ((with_reducible apply o_loadAll (cs := spL s)); (case hx => rfl); (case p => exact (by (first | ((repeat (first | with_reducible exact Pull.head | with_reducible apply Pull.tail)); done) | (repeat (first | exact Pull.head | apply Pull.tail))))); (case hl => rfl); (case hn => rfl)); exact hK)))
    ((first | ((with_reducible apply TriM.q 14); (case ho => rfl); (case hg => rfl)) | ((with_reducible apply TriM.qYes 14); (case ho => rfl); (case hg => rfl); (case hyl => rfl); (case hb => with_reducible rfl))); (case hB => kernel_rfl); (case hd => rfl); (case hn => rfl); (case h => (intro F K hK; ((with_reducible apply o_neqA (r := true)); (case hx => rfl); (case hy => rfl); (case hax => exact sp_alk s); (case hay => exact sp_alk s); (case hr => simp); (case hn => rfl)); exact hK)))
    ((first | ((with_reducible apply TriM.q 15); rfl; rfl) | ((with_reducible apply TriM.qYes 15); rfl; rfl; rfl; with_reducible rfl)); kernel_rfl; rfl; rfl; (intro F K hK; (with_reducible apply o_pickF); (iterate 4 rfl); exact hK))
    ((with_reducible apply TriM.nil); (case hr => kernel_rfl); (try dsimp only [List.cons_append, List.nil_append]))
    ((with_reducible refine Tri.thenN ?_))
    ((with_reducible apply Tri.setb 56 (false)); (case h => rfl); (case hi => rfl))
    ((with_reducible apply Tri.condF); rfl; rfl; (with_reducible refine Tri.skip (Tri.thenN (Tri.seq (Tri.region ?_)))); (with_reducible apply Tri.op); rfl; (with_reducible apply o_move); rfl; rfl; (with_reducible apply Tri.op); rfl; (with_reducible apply o_move); rfl; rfl; (with_reducible apply Tri.op); rfl; (with_reducible apply o_len); rfl; rfl; (with_reducible apply Tri.op); rfl; (with_reducible apply o_min); rfl; rfl; rfl; (with_reducible apply Tri.op); rfl)
    ((with_reducible apply Tri.seti 60 ((m : Int))); (case h => rfl); (case hi => (first | omega | (split <;> omega))))
    ((with_reducible apply o_slice (lo := 0) (hi := m)); (case hx => rfl); (case hr => exact rdw_ex (by (first | ((repeat (first | with_reducible exact Pull.head | with_reducible apply Pull.tail)); done) | (repeat (first | exact Pull.head | apply Pull.tail)))) hr); (case hol => first | exact fun _ _ => rfl | exact fun a ha => congrArg some (ha.eval rfl)); (case hoh => first | exact fun _ _ => rfl | exact fun a ha => congrArg some (ha.eval rfl)); (case hlo => first | exact .inr ⟨rfl, rfl⟩ | exact .inl ⟨_, rfl⟩ | exact .inl ⟨_, (by congr 2; omega)⟩); (case hhi => first | exact .inr ⟨rfl, rfl⟩ | exact .inl ⟨_, rfl⟩ | exact .inl ⟨_, (by congr 2; omega)⟩); (case hlh => omega); (case hhm => omega); (case hn => rfl))
    rw [← hv']
    ((with_reducible apply Tri.op); rfl; (with_reducible apply o_assign); rfl; rfl; (with_reducible refine Tri.nil (Tri.thenN (Tri.seq (Tri.region ?_)))); (with_reducible apply Tri.op); rfl; (with_reducible apply o_move); rfl; rfl; (with_reducible apply Tri.op); rfl)
    ((with_reducible apply o_callV (hs := super_Get v' (l.take m))); (case hargs => (repeat first | exact evs.nil | (apply evs.cons; case a => rfl))); (case hpre => exact rdw_ex (by (first | ((repeat (first | with_reducible exact Pull.head | with_reducible apply Pull.tail)); done) | (repeat (first | exact Pull.head | apply Pull.tail)))) q1); (case hn => rfl))
    by_cases he : (getS (l.take m)).2 = 0
    · obtain ⟨ok2, hp2, hg2⟩ := getS_ok he
      obtain ⟨Q, hQ⟩ : ∃ Q, Q = getS (l.take m) := ⟨_, rfl⟩
      rw [← hQ] at he ok2 hp2 hg2 ⊢
      obtain ⟨q, e⟩ := Q
      dsimp only at he ok2 hp2 hg2 ⊢
      subst he
      ((with_reducible apply Tri.op); rfl; (with_reducible apply o_move); rfl; rfl; (with_reducible apply Tri.op); rfl; (with_reducible apply o_extract); rfl; rfl; rfl; (with_reducible apply Tri.op); rfl; (with_reducible apply o_extract); rfl; rfl; rfl; (with_reducible apply Tri.op); rfl)
      ((with_reducible apply o_alloc); (case hn => rfl); intro b9)
      ((with_reducible apply Tri.op); rfl)
      ((with_reducible apply o_storeAll (ys := spL q)); (case hx => rfl); (case hy => rfl); (case p => (first | ((repeat (first | with_reducible exact Pull.head | with_reducible apply Pull.tail)); done) | (repeat (first | exact Pull.head | apply Pull.tail)))); (case hl => rfl); (case hc => rfl); (case h1 => exact spL_one q))
      ((with_reducible apply Tri.op); rfl; (with_reducible apply o_assign); rfl; rfl; (with_reducible refine Tri.nil (Tri.thenN (Tri.seq (Tri.seq (Tri.region ?_))))); (with_reducible apply Tri.op); rfl; (with_reducible apply o_move); rfl; rfl; (with_reducible apply Tri.op); rfl; (with_reducible apply o_neq); rfl; rfl; rfl; (with_reducible refine Tri.nil (Tri.thenN ?_)))
      ((with_reducible apply Tri.setb 68 (false)); (case h => rfl); (case hi => rfl))
      ((with_reducible apply Tri.condF); rfl; rfl; (with_reducible refine Tri.skip (Tri.thenN (Tri.seq ?_))))
      ((first | with_reducible apply Tri.mix [blk b9 50 (spL q), Ex (hp w)] | ((with_reducible apply TriR.mix [blk b9 50 (spL q), Ex (hp w)]); (case hnd => rfl))); (case p => (repeat (first | exact Pulls.nil | (apply Pulls.cons; (case a => (first | ((repeat (first | with_reducible exact Gv.Pull.head | with_reducible apply Gv.Pull.tail)); done) | (repeat (first | exact Gv.Pull.head | apply Gv.Pull.tail)))))))); (dsimp only [List.length]))
      ((first | ((with_reducible apply TriM.q 0); (case ho => rfl); (case hg => rfl)) | ((with_reducible apply TriM.qYes 0); (case ho => rfl); (case hg => rfl); (case hyl => rfl); (case hb => with_reducible rfl))); (case hB => kernel_rfl); (case hd => rfl); (case hn => rfl); (case h => (intro F K hK; ((with_reducible apply o_loadAll (cs := spL q)); (case hx => rfl); (case p => exact (by (first | ((repeat (first | with_reducible exact Pull.head | with_reducible apply Pull.tail)); done) | (repeat (first | exact Pull.head | apply Pull.tail))))); (case hl => rfl); (case hn => rfl)); exact hK)))
      ((first | ((with_reducible apply TriM.q 1); (case ho => rfl); (case hg => rfl)) | ((with_reducible apply TriM.qYes 1); (case ho => rfl); (case hg => rfl); (case hyl => rfl); (case hb => with_reducible rfl))); (case hB => kernel_rfl); (case hd => rfl); (case hn => rfl); (case h => (intro F K hK; (with_reducible apply o_callV (hs := law15_from q)); (case hargs => (repeat first | exact evs.nil | (apply evs.cons; case a => rfl))); (case hpre => exact fun _ _ => trivial); (case hn => rfl); exact hK)))
      ((first | ((with_reducible apply TriM.q 2); (case ho => rfl); (case hg => rfl)) | ((with_reducible apply TriM.qYes 2); (case ho => rfl); (case hg => rfl); (case hyl => rfl); (case hb => with_reducible rfl))); (case hB => kernel_rfl); (case hd => rfl); (case hn => rfl); (case h => (intro F K hK; (with_reducible apply o_callV (hs := ref15_Right q)); (case hargs => (repeat first | exact evs.nil | (apply evs.cons; case a => rfl))); (case hpre => exact fun _ _ => trivial); (case hn => rfl); exact hK)))
      rw [ok2]
      ((first | ((with_reducible apply TriM.q 3); rfl; rfl) | ((with_reducible apply TriM.qYes 3); rfl; rfl; rfl; with_reducible rfl)); kernel_rfl; rfl; rfl; (intro F K hK; (with_reducible apply o_move); rfl; rfl; exact hK))
      ((first | ((with_reducible apply TriM.q 4); (case ho => rfl); (case hg => rfl)) | ((with_reducible apply TriM.qYes 4); (case ho => rfl); (case hg => rfl); (case hyl => rfl); (case hb => with_reducible rfl))); (case hB => kernel_rfl); (case hd => rfl); (case hn => rfl); (case h => (intro F K hK; ((with_reducible apply o_loadAll (cs := spL q)); (case hx => rfl); (case p => exact (by (first | ((repeat (first | with_reducible exact Pull.head | with_reducible apply Pull.tail)); done) | (repeat (first | exact Pull.head | apply Pull.tail))))); (case hl => rfl); (case hn => rfl)); exact hK)))
      ((first | ((with_reducible apply TriM.q 5); (case ho => rfl); (case hg => rfl)) | ((with_reducible apply TriM.qYes 5); (case ho => rfl); (case hg => rfl); (case hyl => rfl); (case hb => with_reducible rfl))); (case hB => kernel_rfl); (case hd => rfl); (case hn => rfl); (case h => (intro F K hK; (with_reducible apply o_callV (hs := law15_from q)); (case hargs => (repeat first | exact evs.nil | (apply evs.cons; case a => rfl))); (case hpre => exact fun _ _ => trivial); (case hn => rfl); exact hK)))
      ((first | ((with_reducible apply TriM.q 8); rfl; rfl) | ((with_reducible apply TriM.qYes 8); rfl; rfl; rfl; with_reducible rfl)); kernel_rfl; rfl; rfl; (intro F K hK; (with_reducible apply o_move); rfl; rfl; exact hK))
      ((first | ((with_reducible apply TriM.q 9); (case ho => rfl); (case hg => rfl)) | ((with_reducible apply TriM.qYes 9); (case ho => rfl); (case hg => rfl); (case hyl => rfl); (case hb => with_reducible rfl))); (case hB => kernel_rfl); (case hd => rfl); (case hn => rfl); (case h => (intro F K hK; ((with_reducible apply o_bytesStr (l := l.take m)); (case he => exact Try.underlying5); (case hx => rfl); (case hr => exact rdw_ex (by (first | ((repeat (first | with_reducible exact Pull.head | with_reducible apply Pull.tail)); done) | (repeat (first | exact Pull.head | apply Pull.tail)))) q1); (case hn => rfl)); exact hK)))
      ((with_reducible apply TriM.aY 6); (case ho => rfl); (case hg => rfl); (case hyl => rfl); (case hb => with_reducible rfl); (case hr => kernel_rfl); (try dsimp only [List.cons_append, List.nil_append]))
      ((with_reducible apply o_callR (hs := ref15_Put q ok2 hg2)); (case hargs => (repeat first | exact evs.nil | (apply evs.cons; case a => rfl))); (case hpre => exact fun _ _ => trivial); (case hn => rfl))
      rintro r6 H6 ⟨v6, rfl, rfl⟩
      (try dsimp only [List.cons_append, List.nil_append])
      ((with_reducible apply TriM.back); (case p => (repeat (first | exact Pulls.nil | (apply Pulls.cons; (case a => (first | ((repeat (first | with_reducible exact Gv.Pull.head | with_reducible apply Gv.Pull.tail)); done) | (repeat (first | exact Gv.Pull.head | apply Gv.Pull.tail)))))))))
      ((with_reducible apply TriM.aY 7); (case ho => rfl); (case hg => rfl); (case hyl => rfl); (case hb => with_reducible rfl); (case hr => kernel_rfl); (try dsimp only [List.cons_append, List.nil_append]))
      ((with_reducible apply o_bytesStr (l := putS q)); (case he => exact Try.underlying5); (case hx => rfl); (case hr => (rw [putS_length]; exact rdw_own (by (first | ((repeat (first | with_reducible exact Pull.head | with_reducible apply Pull.tail)); done) | (repeat (first | exact Pull.head | apply Pull.tail)))))); (case hn => rfl))
      ((with_reducible apply TriM.back); (case p => (repeat (first | exact Pulls.nil | (apply Pulls.cons; (case a => (first | ((repeat (first | with_reducible exact Gv.Pull.head | with_reducible apply Gv.Pull.tail)); done) | (repeat (first | exact Gv.Pull.head | apply Gv.Pull.tail)))))))))
      ((first | ((with_reducible apply TriM.q 10); rfl; rfl) | ((with_reducible apply TriM.qYes 10); rfl; rfl; rfl; with_reducible rfl)); kernel_rfl; rfl; rfl; (intro F K hK; (with_reducible apply o_eqlS); rfl; rfl; rfl; exact hK); (first | ((with_reducible apply TriM.q 11); rfl; rfl) | ((with_reducible apply TriM.qYes 11); rfl; rfl; rfl; with_reducible rfl)); kernel_rfl; rfl; rfl; (intro F K hK; (with_reducible apply o_pickT); (iterate 4 rfl); exact hK))
      ((with_reducible apply TriM.setb 87 (true)); (case h => rfl); (case hi => (rw [hp2]; simp)))
      ((first | ((with_reducible apply TriM.q 12); rfl; rfl) | ((with_reducible apply TriM.qYes 12); rfl; rfl; rfl; with_reducible rfl)); kernel_rfl; rfl; rfl; (intro F K hK; (with_reducible apply o_assign); rfl; rfl; exact hK))
      ((with_reducible apply TriM.nil); (case hr => kernel_rfl); (try dsimp only [List.cons_append, List.nil_append]))
      ((with_reducible refine Tri.thenN (Tri.ret ?_)))
      (first | with_reducible apply Tri.fin | with_reducible apply Tri.finN)
      case hr => rfl
      case h => exact ResL.cons (Res1.tmp rfl) ResL.nil
      exact fin_law (F := []) w (by (repeat (first | exact Pulls.nil | (apply Pulls.cons; (case a => (first | ((repeat (first | with_reducible exact Gv.Pull.head | with_reducible apply Gv.Pull.tail)); done) | (repeat (first | exact Gv.Pull.head | apply Gv.Pull.tail)))))))) _ rfl
    · rw [getS_bad he]
      ((with_reducible apply Tri.op); rfl; (with_reducible apply o_move); rfl; rfl; (with_reducible apply Tri.op); rfl; (with_reducible apply o_extract); rfl; rfl; rfl; (with_reducible apply Tri.op); rfl; (with_reducible apply o_extract); rfl; rfl; rfl; (with_reducible apply Tri.op); rfl)
      ((with_reducible apply o_alloc); (case hn => rfl); intro b9)
      ((with_reducible apply Tri.op); rfl)
      ((with_reducible apply o_storeAll (ys := spL zeroS)); (case hx => rfl); (case hy => rfl); (case p => (first | ((repeat (first | with_reducible exact Pull.head | with_reducible apply Pull.tail)); done) | (repeat (first | exact Pull.head | apply Pull.tail)))); (case hl => rfl); (case hc => rfl); (case h1 => exact spL_one zeroS))
      ((with_reducible apply Tri.op); rfl; (with_reducible apply o_assign); rfl; rfl; (with_reducible refine Tri.nil (Tri.thenN (Tri.seq (Tri.seq (Tri.region ?_))))); (with_reducible apply Tri.op); rfl; (with_reducible apply o_move); rfl; rfl; (with_reducible apply Tri.op); rfl; (with_reducible apply o_neq); rfl; rfl; rfl; (with_reducible refine Tri.nil (Tri.thenN ?_)))
      ((with_reducible apply Tri.setb 68 (true)); (case h => rfl); (case hi => rfl))
      ((with_reducible apply Tri.condT); rfl; rfl; (with_reducible refine Tri.seq (Tri.region ?_)); (with_reducible apply Tri.op); rfl; (with_reducible apply o_move); rfl; rfl; (with_reducible apply Tri.op); rfl; (with_reducible apply o_eql); rfl; rfl; rfl; (with_reducible apply Tri.op); rfl; (with_reducible apply o_move); rfl; rfl)
      ((with_reducible apply Tri.setb 71 (true)); (case h => rfl); (case hi => rfl))
      ((with_reducible apply Tri.opYes); rfl; rfl; rfl)
      ((with_reducible apply o_loadAll (cs := spL zeroS)); (case hx => rfl); (case p => exact (by (first | ((repeat (first | with_reducible exact Pull.head | with_reducible apply Pull.tail)); done) | (repeat (first | exact Pull.head | apply Pull.tail))))); (case hl => rfl); (case hn => rfl))
      ((with_reducible apply Tri.opYes); rfl; rfl; rfl; (with_reducible apply o_build0); rfl; (with_reducible apply Tri.opYes); rfl; rfl; rfl)
      ((with_reducible apply Tri.setv 73 ((.agg (spL zeroS).toArray))); (case h => rfl); (case hv => rfl))
      ((with_reducible apply o_eqlA (r := true)); (case hx => rfl); (case hy => rfl); (case hax => exact sp_alk zeroS); (case hay => exact sp_alk zeroS); (case hr => simp); (case hn => rfl))
      ((with_reducible apply Tri.op); rfl; (with_reducible apply o_pickT); (iterate 4 rfl); (with_reducible apply Tri.op); rfl; (with_reducible apply o_assign); rfl; rfl; (with_reducible refine Tri.nil (Tri.thenN (Tri.ret (Tri.thenR ?_)))))
      (first | with_reducible apply Tri.fin | with_reducible apply Tri.finN)
      case hr => rfl
      case h => exact ResL.cons (Res1.tmp rfl) ResL.nil
      exact fin_law (F := []) w (by (repeat (first | exact Pulls.nil | (apply Pulls.cons; (case a => (first | ((repeat (first | with_reducible exact Gv.Pull.head | with_reducible apply Gv.Pull.tail)); done) | (repeat (first | exact Gv.Pull.head | apply Gv.Pull.tail)))))))) _ rfl
  · have hno : okS s = false := by simpa using hok
    ((with_reducible apply o_callV (hs := super_Put_no s hno)); (case hargs => (repeat first | exact evs.nil | (apply evs.cons; case a => rfl))); (case hpre => exact fun _ _ => trivial); (case hn => rfl))
    ((with_reducible apply Tri.op); rfl; (with_reducible apply o_move); rfl; rfl; (with_reducible apply Tri.op); rfl; (with_reducible apply o_extract); rfl; rfl; rfl; (with_reducible apply Tri.op); rfl; (with_reducible apply o_extract); rfl; rfl; rfl; (with_reducible apply Tri.op); rfl; (with_reducible apply o_assign); rfl; rfl; (with_reducible apply Tri.op); rfl; (with_reducible apply o_assign); rfl; rfl; (with_reducible refine Tri.nil (Tri.thenN (Tri.seq (Tri.seq (Tri.region ?_))))); (with_reducible apply Tri.op); rfl)
    ((with_reducible apply o_callV (hs := law15_counts)); (case hargs => (repeat first | exact evs.nil | (apply evs.cons; case a => rfl))); (case hpre => exact fun _ _ => trivial); (case hn => rfl))
    ((with_reducible apply Tri.op); rfl; (with_reducible apply o_not); rfl; rfl; (with_reducible apply Tri.op); rfl; (with_reducible apply o_move); rfl; rfl)
    ((with_reducible apply Tri.setb 19 (false)); (case h => rfl); (case hi => rfl))
    ((with_reducible apply Tri.opYes); rfl; rfl; rfl; (with_reducible apply o_move); rfl; rfl; (with_reducible apply Tri.opYes); rfl; rfl; rfl; (with_reducible apply o_eql); rfl; rfl; rfl; (with_reducible apply Tri.opYes); rfl; rfl; rfl)
    ((with_reducible apply o_loadAll (cs := spL s)); (case hx => rfl); (case p => exact (by (first | ((repeat (first | with_reducible exact Pull.head | with_reducible apply Pull.tail)); done) | (repeat (first | exact Pull.head | apply Pull.tail))))); (case hl => rfl); (case hn => rfl))
    ((with_reducible apply Tri.opYes); rfl; rfl; rfl)
    ((with_reducible apply o_callV (hs := ref15_Right s)); (case hargs => (repeat first | exact evs.nil | (apply evs.cons; case a => rfl))); (case hpre => exact fun _ _ => trivial); (case hn => rfl))
    rw [hno]
    ((with_reducible apply Tri.opYes); rfl; rfl; rfl; (with_reducible apply o_neqB); rfl; rfl; rfl; (with_reducible apply Tri.op); rfl; (with_reducible apply o_pickF); (iterate 4 rfl); (with_reducible apply Tri.op); rfl; (with_reducible apply o_move); rfl; rfl)
    ((with_reducible apply Tri.setb 26 (false)); (case h => rfl); (case hi => rfl))
    ((with_reducible apply Tri.opYes); rfl; rfl; rfl; (with_reducible apply o_move); rfl; rfl; (with_reducible apply Tri.opYes); rfl; rfl; rfl; (with_reducible apply o_neq); rfl; rfl; rfl; (with_reducible apply Tri.opYes); rfl; rfl; rfl; (with_reducible apply o_move); rfl; rfl)
    ((with_reducible apply Tri.setb 29 (true)); (case h => rfl); (case hi => rfl))
    ((with_reducible apply Tri.opYes); rfl; rfl; rfl; (with_reducible apply o_move); rfl; rfl; (with_reducible apply Tri.opYes); rfl; rfl; rfl; (with_reducible apply o_neq); rfl; rfl; rfl; (with_reducible apply Tri.opYes); rfl; rfl; rfl; (with_reducible apply o_pickT); (iterate 4 rfl); (with_reducible apply Tri.op); rfl; (with_reducible apply o_pickF); (iterate 4 rfl); (with_reducible refine Tri.nil (Tri.thenN ?_)))
    ((with_reducible apply Tri.setb 33 (false)); (case h => rfl); (case hi => rfl))
    ((with_reducible apply Tri.condF); rfl; rfl; (with_reducible refine Tri.skip (Tri.thenN (Tri.seq (Tri.seq (Tri.region ?_))))); (with_reducible apply Tri.op); rfl; (with_reducible apply o_move); rfl; rfl; (with_reducible apply Tri.op); rfl; (with_reducible apply o_eql); rfl; rfl; rfl; (with_reducible refine Tri.nil (Tri.thenN ?_)))
    ((with_reducible apply Tri.setb 35 (false)); (case h => rfl); (case hi => rfl))
    ((with_reducible apply Tri.condF); rfl; rfl; (with_reducible refine Tri.skip (Tri.thenN (Tri.seq (Tri.region ?_)))); (with_reducible apply Tri.op); rfl; (with_reducible apply o_move); rfl; rfl; (with_reducible apply Tri.op); rfl; (with_reducible apply o_move); rfl; rfl; (with_reducible apply Tri.op); rfl; (with_reducible apply o_len); rfl; rfl; (with_reducible apply Tri.op); rfl; (with_reducible apply o_min); rfl; rfl; rfl; (with_reducible apply Tri.op); rfl)
    ((with_reducible apply Tri.seti 60 ((m : Int))); (case h => rfl); (case hi => (first | omega | (split <;> omega))))
    ((with_reducible apply o_slice (lo := 0) (hi := m)); (case hx => rfl); (case hr => exact rdw_ex (by (first | ((repeat (first | with_reducible exact Pull.head | with_reducible apply Pull.tail)); done) | (repeat (first | exact Pull.head | apply Pull.tail)))) hr); (case hol => first | exact fun _ _ => rfl | exact fun a ha => congrArg some (ha.eval rfl)); (case hoh => first | exact fun _ _ => rfl | exact fun a ha => congrArg some (ha.eval rfl)); (case hlo => first | exact .inr ⟨rfl, rfl⟩ | exact .inl ⟨_, rfl⟩ | exact .inl ⟨_, (by congr 2; omega)⟩); (case hhi => first | exact .inr ⟨rfl, rfl⟩ | exact .inl ⟨_, rfl⟩ | exact .inl ⟨_, (by congr 2; omega)⟩); (case hlh => omega); (case hhm => omega); (case hn => rfl))
    rw [← hv']
    ((with_reducible apply Tri.op); rfl; (with_reducible apply o_assign); rfl; rfl; (with_reducible refine Tri.nil (Tri.thenN (Tri.seq (Tri.region ?_)))); (with_reducible apply Tri.op); rfl; (with_reducible apply o_move); rfl; rfl; (with_reducible apply Tri.op); rfl)
    ((with_reducible apply o_callV (hs := super_Get v' (l.take m))); (case hargs => (repeat first | exact evs.nil | (apply evs.cons; case a => rfl))); (case hpre => exact rdw_ex (by (first | ((repeat (first | with_reducible exact Pull.head | with_reducible apply Pull.tail)); done) | (repeat (first | exact Pull.head | apply Pull.tail)))) q1); (case hn => rfl))
    by_cases he : (getS (l.take m)).2 = 0
    · obtain ⟨ok2, hp2, hg2⟩ := getS_ok he
      obtain ⟨Q, hQ⟩ : ∃ Q, Q = getS (l.take m) := ⟨_, rfl⟩
      rw [← hQ] at he ok2 hp2 hg2 ⊢
      obtain ⟨q, e⟩ := Q
      dsimp only at he ok2 hp2 hg2 ⊢
      subst he
      ((with_reducible apply Tri.op); rfl; (with_reducible apply o_move); rfl; rfl; (with_reducible apply Tri.op); rfl; (with_reducible apply o_extract); rfl; rfl; rfl; (with_reducible apply Tri.op); rfl; (with_reducible apply o_extract); rfl; rfl; rfl; (with_reducible apply Tri.op); rfl)
      ((with_reducible apply o_alloc); (case hn => rfl); intro b9)
      ((with_reducible apply Tri.op); rfl)
      ((with_reducible apply o_storeAll (ys := spL q)); (case hx => rfl); (case hy => rfl); (case p => (first | ((repeat (first | with_reducible exact Pull.head | with_reducible apply Pull.tail)); done) | (repeat (first | exact Pull.head | apply Pull.tail)))); (case hl => rfl); (case hc => rfl); (case h1 => exact spL_one q))
      ((with_reducible apply Tri.op); rfl; (with_reducible apply o_assign); rfl; rfl; (with_reducible refine Tri.nil (Tri.thenN (Tri.seq (Tri.seq (Tri.region ?_))))); (with_reducible apply Tri.op); rfl; (with_reducible apply o_move); rfl; rfl; (with_reducible apply Tri.op); rfl; (with_reducible apply o_neq); rfl; rfl; rfl; (with_reducible refine Tri.nil (Tri.thenN ?_)))
      ((with_reducible apply Tri.setb 68 (false)); (case h => rfl); (case hi => rfl))
      ((with_reducible apply Tri.condF); rfl; rfl; (with_reducible refine Tri.skip (Tri.thenN (Tri.seq ?_))))
      ((first | with_reducible apply Tri.mix [blk b9 50 (spL q), Ex (hp w)] | ((with_reducible apply TriR.mix [blk b9 50 (spL q), Ex (hp w)]); (case hnd => rfl))); (case p => (repeat (first | exact Pulls.nil | (apply Pulls.cons; (case a => (first | ((repeat (first | with_reducible exact Gv.Pull.head | with_reducible apply Gv.Pull.tail)); done) | (repeat (first | exact Gv.Pull.head | apply Gv.Pull.tail)))))))); (dsimp only [List.length]))
      ((first | ((with_reducible apply TriM.q 0); (case ho => rfl); (case hg => rfl)) | ((with_reducible apply TriM.qYes 0); (case ho => rfl); (case hg => rfl); (case hyl => rfl); (case hb => with_reducible rfl))); (case hB => kernel_rfl); (case hd => rfl); (case hn => rfl); (case h => (intro F K hK; ((with_reducible apply o_loadAll (cs := spL q)); (case hx => rfl); (case p => exact (by (first | ((repeat (first | with_reducible exact Pull.head | with_reducible apply Pull.tail)); done) | (repeat (first | exact Pull.head | apply Pull.tail))))); (case hl => rfl); (case hn => rfl)); exact hK)))
      ((first | ((with_reducible apply TriM.q 1); (case ho => rfl); (case hg => rfl)) | ((with_reducible apply TriM.qYes 1); (case ho => rfl); (case hg => rfl); (case hyl => rfl); (case hb => with_reducible rfl))); (case hB => kernel_rfl); (case hd => rfl); (case hn => rfl); (case h => (intro F K hK; (with_reducible apply o_callV (hs := law15_from q)); (case hargs => (repeat first | exact evs.nil | (apply evs.cons; case a => rfl))); (case hpre => exact fun _ _ => trivial); (case hn => rfl); exact hK)))
      ((first | ((with_reducible apply TriM.q 2); (case ho => rfl); (case hg => rfl)) | ((with_reducible apply TriM.qYes 2); (case ho => rfl); (case hg => rfl); (case hyl => rfl); (case hb => with_reducible rfl))); (case hB => kernel_rfl); (case hd => rfl); (case hn => rfl); (case h => (intro F K hK; (with_reducible apply o_callV (hs := ref15_Right q)); (case hargs => (repeat first | exact evs.nil | (apply evs.cons; case a => rfl))); (case hpre => exact fun _ _ => trivial); (case hn => rfl); exact hK)))
      rw [ok2]
      ((first | ((with_reducible apply TriM.q 3); rfl; rfl) | ((with_reducible apply TriM.qYes 3); rfl; rfl; rfl; with_reducible rfl)); kernel_rfl; rfl; rfl; (intro F K hK; (with_reducible apply o_move); rfl; rfl; exact hK))
      ((first | ((with_reducible apply TriM.q 4); (case ho => rfl); (case hg => rfl)) | ((with_reducible apply TriM.qYes 4); (case ho => rfl); (case hg => rfl); (case hyl => rfl); (case hb => with_reducible rfl))); (case hB => kernel_rfl); (case hd => rfl); (case hn => rfl); (case h => (intro F K hK; ((with_reducible apply o_loadAll (cs := spL q)); (case hx => rfl); (case p => exact (by (first | ((repeat (first | with_reducible exact Pull.head | with_reducible apply Pull.tail)); done) | (repeat (first | exact Pull.head | apply Pull.tail))))); (case hl => rfl); (case hn => rfl)); exact hK)))
      ((first | ((with_reducible apply TriM.q 5); (case ho => rfl); (case hg => rfl)) | ((with_reducible apply TriM.qYes 5); (case ho => rfl); (case hg => rfl); (case hyl => rfl); (case hb => with_reducible rfl))); (case hB => kernel_rfl); (case hd => rfl); (case hn => rfl); (case h => (intro F K hK; (with_reducible apply o_callV (hs := law15_from q)); (case hargs => (repeat first | exact evs.nil | (apply evs.cons; case a => rfl))); (case hpre => exact fun _ _ => trivial); (case hn => rfl); exact hK)))
      ((first | ((with_reducible apply TriM.q 8); rfl; rfl) | ((with_reducible apply TriM.qYes 8); rfl; rfl; rfl; with_reducible rfl)); kernel_rfl; rfl; rfl; (intro F K hK; (with_reducible apply o_move); rfl; rfl; exact hK))
      ((first | ((with_reducible apply TriM.q 9); (case ho => rfl); (case hg => rfl)) | ((with_reducible apply TriM.qYes 9); (case ho => rfl); (case hg => rfl); (case hyl => rfl); (case hb => with_reducible rfl))); (case hB => kernel_rfl); (case hd => rfl); (case hn => rfl); (case h => (intro F K hK; ((with_reducible apply o_bytesStr (l := l.take m)); (case he => exact Try.underlying5); (case hx => rfl); (case hr => exact rdw_ex (by (first | ((repeat (first | with_reducible exact Pull.head | with_reducible apply Pull.tail)); done) | (repeat (first | exact Pull.head | apply Pull.tail)))) q1); (case hn => rfl)); exact hK)))
      ((with_reducible apply TriM.aY 6); (case ho => rfl); (case hg => rfl); (case hyl => rfl); (case hb => with_reducible rfl); (case hr => kernel_rfl); (try dsimp only [List.cons_append, List.nil_append]))
      ((with_reducible apply o_callR (hs := ref15_Put q ok2 hg2)); (case hargs => (repeat first | exact evs.nil | (apply evs.cons; case a => rfl))); (case hpre => exact fun _ _ => trivial); (case hn => rfl))
      rintro r6 H6 ⟨v6, rfl, rfl⟩
      (try dsimp only [List.cons_append, List.nil_append])
      ((with_reducible apply TriM.back); (case p => (repeat (first | exact Pulls.nil | (apply Pulls.cons; (case a => (first | ((repeat (first | with_reducible exact Gv.Pull.head | with_reducible apply Gv.Pull.tail)); done) | (repeat (first | exact Gv.Pull.head | apply Gv.Pull.tail)))))))))
      ((with_reducible apply TriM.aY 7); (case ho => rfl); (case hg => rfl); (case hyl => rfl); (case hb => with_reducible rfl); (case hr => kernel_rfl); (try dsimp only [List.cons_append, List.nil_append]))
      ((with_reducible apply o_bytesStr (l := putS q)); (case he => exact Try.underlying5); (case hx => rfl); (case hr => (rw [putS_length]; exact rdw_own (by (first | ((repeat (first | with_reducible exact Pull.head | with_reducible apply Pull.tail)); done) | (repeat (first | exact Pull.head | apply Pull.tail)))))); (case hn => rfl))
      ((with_reducible apply TriM.back); (case p => (repeat (first | exact Pulls.nil | (apply Pulls.cons; (case a => (first | ((repeat (first | with_reducible exact Gv.Pull.head | with_reducible apply Gv.Pull.tail)); done) | (repeat (first | exact Gv.Pull.head | apply Gv.Pull.tail)))))))))
      ((first | ((with_reducible apply TriM.q 10); rfl; rfl) | ((with_reducible apply TriM.qYes 10); rfl; rfl; rfl; with_reducible rfl)); kernel_rfl; rfl; rfl; (intro F K hK; (with_reducible apply o_eqlS); rfl; rfl; rfl; exact hK); (first | ((with_reducible apply TriM.q 11); rfl; rfl) | ((with_reducible apply TriM.qYes 11); rfl; rfl; rfl; with_reducible rfl)); kernel_rfl; rfl; rfl; (intro F K hK; (with_reducible apply o_pickT); (iterate 4 rfl); exact hK))
      ((with_reducible apply TriM.setb 87 (true)); (case h => rfl); (case hi => (rw [hp2]; simp)))
      ((first | ((with_reducible apply TriM.q 12); rfl; rfl) | ((with_reducible apply TriM.qYes 12); rfl; rfl; rfl; with_reducible rfl)); kernel_rfl; rfl; rfl; (intro F K hK; (with_reducible apply o_assign); rfl; rfl; exact hK))
      ((with_reducible apply TriM.nil); (case hr => kernel_rfl); (try dsimp only [List.cons_append, List.nil_append]))
      ((with_reducible refine Tri.thenN (Tri.ret ?_)))
      (first | with_reducible apply Tri.fin | with_reducible apply Tri.finN)
      case hr => rfl
      case h => exact ResL.cons (Res1.tmp rfl) ResL.nil
      exact fin_law (F := []) w (by (repeat (first | exact Pulls.nil | (apply Pulls.cons; (case a => (first | ((repeat (first | with_reducible exact Gv.Pull.head | with_reducible apply Gv.Pull.tail)); done) | (repeat (first | exact Gv.Pull.head | apply Gv.Pull.tail)))))))) _ rfl
    · rw [getS_bad he]
      ((with_reducible apply Tri.op); rfl; (with_reducible apply o_move); rfl; rfl; (with_reducible apply Tri.op); rfl; (with_reducible apply o_extract); rfl; rfl; rfl; (with_reducible apply Tri.op); rfl; (with_reducible apply o_extract); rfl; rfl; rfl; (with_reducible apply Tri.op); rfl)
      ((with_reducible apply o_alloc); (case hn => rfl); intro b9)
      ((with_reducible apply Tri.op); rfl)
      ((with_reducible apply o_storeAll (ys := spL zeroS)); (case hx => rfl); (case hy => rfl); (case p => (first | ((repeat (first | with_reducible exact Pull.head | with_reducible apply Pull.tail)); done) | (repeat (first | exact Pull.head | apply Pull.tail)))); (case hl => rfl); (case hc => rfl); (case h1 => exact spL_one zeroS))
      ((with_reducible apply Tri.op); rfl; (with_reducible apply o_assign); rfl; rfl; (with_reducible refine Tri.nil (Tri.thenN (Tri.seq (Tri.seq (Tri.region ?_))))); (with_reducible apply Tri.op); rfl; (with_reducible apply o_move); rfl; rfl; (with_reducible apply Tri.op); rfl; (with_reducible apply o_neq); rfl; rfl; rfl; (with_reducible refine Tri.nil (Tri.thenN ?_)))
      ((with_reducible apply Tri.setb 68 (true)); (case h => rfl); (case hi => rfl))
      ((with_reducible apply Tri.condT); rfl; rfl; (with_reducible refine Tri.seq (Tri.region ?_)); (with_reducible apply Tri.op); rfl; (with_reducible apply o_move); rfl; rfl; (with_reducible apply Tri.op); rfl; (with_reducible apply o_eql); rfl; rfl; rfl; (with_reducible apply Tri.op); rfl; (with_reducible apply o_move); rfl; rfl)
      ((with_reducible apply Tri.setb 71 (true)); (case h => rfl); (case hi => rfl))
      ((with_reducible apply Tri.opYes); rfl; rfl; rfl)
      ((with_reducible apply o_loadAll (cs := spL zeroS)); (case hx => rfl); (case p => exact (by (first | ((repeat (first | with_reducible exact Pull.head | with_reducible apply Pull.tail)); done) | (repeat (first | exact Pull.head | apply Pull.tail))))); (case hl => rfl); (case hn => rfl))
      ((with_reducible apply Tri.opYes); rfl; rfl; rfl; (with_reducible apply o_build0); rfl; (with_reducible apply Tri.opYes); rfl; rfl; rfl)
      ((with_reducible apply Tri.setv 73 ((.agg (spL zeroS).toArray))); (case h => rfl); (case hv => rfl))
      ((with_reducible apply o_eqlA (r := true)); (case hx => rfl); (case hy => rfl); (case hax => exact sp_alk zeroS); (case hay => exact sp_alk zeroS); (case hr => simp); (case hn => rfl))
      ((with_reducible apply Tri.op); rfl; (with_reducible apply o_pickT); (iterate 4 rfl); (with_reducible apply Tri.op); rfl; (with_reducible apply o_assign); rfl; rfl; (with_reducible refine Tri.nil (Tri.thenN (Tri.ret (Tri.thenR ?_)))))
      (first | with_reducible apply Tri.fin | with_reducible apply Tri.finN)
      case hr => rfl
      case h => exact ResL.cons (Res1.tmp rfl) ResL.nil
      exact fin_law (F := []) w (by (repeat (first | exact Pulls.nil | (apply Pulls.cons; (case a => (first | ((repeat (first | with_reducible exact Gv.Pull.head | with_reducible apply Gv.Pull.tail)); done) | (repeat (first | exact Gv.Pull.head | apply Gv.Pull.tail)))))))) _ rfl
end Go.Proofs.Ytckdlfbbkemklaa
