/- Texts of this claim, put together: SpanWalk, GvRead, GvRead2, SpanRead. -/
import Derived.Test.YtckdlfbbkemklaaZ09
import Derived.Test.YtckdlfbbkemklaaZ06
import Derived.Test.YtckdlfbbkemklaaZ02
section
/- walk: of all trees, series and ranges the entries are told whose span meets the range: the walk. -/
namespace Go.Proofs.Ytckdlfbbkemklaa
open Go Go.RowKit Go.Gv
set_option linter.unusedVariables false
set_option linter.unusedSimpArgs false

set_option maxRecDepth 4000 in
set_option maxHeartbeats 16000000 in
theorem walkSpans_walk (w : World) (n st sr lo hi : Int) : Calls Try.prog 9 #[.agg #[.int .i64 n, .int .i64 st], .int .i64 sr, .agg #[.int .i64 lo, .int .i64 hi]] w (Ret (LawR w)) := by
  refine Calls.enter Try.func9 rfl rfl rfl (St.rebase w) ?_
  simp only [argSlots]
  obtain ⟨k, hk⟩ : ∃ k : Nat, (k : Int) = n % 18446744073709551616 % 100 := ⟨(n % 18446744073709551616 % 100).toNat, by omega⟩
  obtain ⟨s, hs⟩ : ∃ s : Nat, (s : Int) = st % 18446744073709551616 % 9 := ⟨(st % 18446744073709551616 % 9).toNat, by omega⟩
  have hB := v200_built k s (by omega) (by omega)
  have hbd := law14_build k s (by omega) (by omega)
  have hlk := bL_length s k
  generalize loadN v200 (bL s k) = R at hB hbd
  have hbe : decide (R.2.2 = 0) = true := decide_eq_true hB.e
  simp only [hbe] at hbd
  (refine Tri.seq (Tri.region ?_); apply Tri.op; rfl)
  (first | (apply o_boxA; (case hx => rfl); (case hn => rfl); intro b3) | (apply o_box1; (case hx => rfl); (case h1 => rfl); (case hn => rfl); intro b3))
  (apply Tri.op; rfl)
  (first | (apply o_boxA; (case hx => rfl); (case hn => rfl); intro b5) | (apply o_box1; (case hx => rfl); (case h1 => rfl); (case hn => rfl); intro b5))
  (apply Tri.op; rfl; apply o_assign; rfl; rfl; refine Tri.nil (Tri.thenN (Tri.seq ?_)))
  ((first | with_reducible apply Tri.mix [blk b3 105 [.int .i64 n, .int .i64 st]] | (apply TriR.mix [blk b3 105 [.int .i64 n, .int .i64 st]]; (case hnd => rfl))); (case p => (repeat first | with_reducible constructor | constructor)); (dsimp only [List.length]))
  ((first | (apply TriM.q 0; (case ho => rfl); (case hg => rfl)) | (apply TriM.qYes 0; (case ho => rfl); (case hg => rfl); (case hyl => rfl); (case hb => with_reducible rfl))); (case hB => kernel_rfl); (case hd => rfl); (case hn => rfl); (case h => (intro F K hK; (try dsimp only [List.cons_append, List.nil_append]); (apply o_ixArr (j := 0); (case hx => rfl); (case hy => rfl); (case hj => rfl); (case hlt => omega); (case hn => rfl)); exact hK)))
  ((first | (apply TriM.q 1; rfl; rfl) | (apply TriM.qYes 1; rfl; rfl; rfl; with_reducible rfl)); kernel_rfl; rfl; rfl; (intro F K hK; (try dsimp only [List.cons_append, List.nil_append]); apply o_load; rfl; (with_reducible repeat constructor); rfl; rfl; exact hK); (first | (apply TriM.q 2; rfl; rfl) | (apply TriM.qYes 2; rfl; rfl; rfl; with_reducible rfl)); kernel_rfl; rfl; rfl; (intro F K hK; apply o_conv64; rfl; rfl; exact hK); (first | (apply TriM.q 3; rfl; rfl) | (apply TriM.qYes 3; rfl; rfl; rfl; with_reducible rfl)); kernel_rfl; rfl; rfl; (intro F K hK; apply o_rem; rfl; rfl; rfl; (omega); (omega); exact hK); (first | (apply TriM.q 4; rfl; rfl) | (apply TriM.qYes 4; rfl; rfl; rfl; with_reducible rfl)); kernel_rfl; rfl; rfl; (intro F K hK; apply o_convI; rfl; rfl; (first | decide | (exact wrap_i64 (by omega)) | (exact wrap_u8 (by omega)) | (exact wrap_u16 (by omega)) | (exact wrap_u32 (by omega)) | (exact wrap_u64 (by omega))); exact hK))
  ((first | (apply TriM.q 5; (case ho => rfl); (case hg => rfl)) | (apply TriM.qYes 5; (case ho => rfl); (case hg => rfl); (case hyl => rfl); (case hb => with_reducible rfl))); (case hB => kernel_rfl); (case hd => rfl); (case hn => rfl); (case h => (intro F K hK; (try dsimp only [List.cons_append, List.nil_append]); (apply o_ixArr (j := 1); (case hx => rfl); (case hy => rfl); (case hj => rfl); (case hlt => omega); (case hn => rfl)); exact hK)))
  ((first | (apply TriM.q 6; rfl; rfl) | (apply TriM.qYes 6; rfl; rfl; rfl; with_reducible rfl)); kernel_rfl; rfl; rfl; (intro F K hK; (try dsimp only [List.cons_append, List.nil_append]); apply o_load; rfl; (with_reducible repeat constructor); rfl; rfl; exact hK); (first | (apply TriM.q 7; rfl; rfl) | (apply TriM.qYes 7; rfl; rfl; rfl; with_reducible rfl)); kernel_rfl; rfl; rfl; (intro F K hK; apply o_conv64; rfl; rfl; exact hK); (first | (apply TriM.q 8; rfl; rfl) | (apply TriM.qYes 8; rfl; rfl; rfl; with_reducible rfl)); kernel_rfl; rfl; rfl; (intro F K hK; apply o_rem; rfl; rfl; rfl; (omega); (omega); exact hK); (first | (apply TriM.q 9; rfl; rfl) | (apply TriM.qYes 9; rfl; rfl; rfl; with_reducible rfl)); kernel_rfl; rfl; rfl; (intro F K hK; apply o_convI; rfl; rfl; (first | decide | (exact wrap_i64 (by omega)) | (exact wrap_u8 (by omega)) | (exact wrap_u16 (by omega)) | (exact wrap_u32 (by omega)) | (exact wrap_u64 (by omega))); exact hK); (first | (apply TriM.q 10; rfl; rfl) | (apply TriM.qYes 10; rfl; rfl; rfl; with_reducible rfl)); kernel_rfl; rfl; rfl; (intro F K hK; apply o_assign; rfl; rfl; exact hK); (first | (apply TriM.q 11; rfl; rfl) | (apply TriM.qYes 11; rfl; rfl; rfl; with_reducible rfl)); kernel_rfl; rfl; rfl; (intro F K hK; apply o_assign; rfl; rfl; exact hK))
  (apply TriM.nil; (case hr => kernel_rfl); (try dsimp only [List.cons_append, List.nil_append]))
  (refine Tri.thenN (Tri.seq (Tri.seq (Tri.region ?_))); apply Tri.op; rfl)
  ((with_reducible apply Tri.seti 7 ((k : Int))); (case h => rfl); (case hi => omega))
  ((with_reducible apply Tri.seti 8 ((s : Int))); (case h => rfl); (case hi => omega))
  skip
  (apply o_callV (hs := law14_walks); (case hargs => (repeat first | exact evs.nil | (apply evs.cons; case a => rfl))); (case hpre => exact fun _ _ => trivial); (case hn => rfl))
  (apply Tri.op; rfl; apply o_not; rfl; rfl; refine Tri.nil (Tri.thenN ?_))
  ((with_reducible apply Tri.setb 32 (false)); (case h => rfl); (case hi => rfl))
  (apply Tri.condF; rfl; rfl; refine Tri.skip (Tri.thenN (Tri.seq (Tri.region ?_))); apply Tri.op; rfl; apply o_move; rfl; rfl; apply Tri.op; rfl; apply o_move; rfl; rfl; apply Tri.op; rfl)
  (apply o_callR (hs := hbd); (case hargs => (repeat first | exact evs.nil | (apply evs.cons; case a => rfl))); (case hpre => exact fun _ _ => trivial); (case hn => rfl))
  rintro r1 H1 ⟨pv, d, A, c, rfl, rfl⟩
  (try dsimp only [List.cons_append, List.nil_append])
  (apply Tri.op; rfl; apply o_move; rfl; rfl; apply Tri.op; rfl; apply o_extract; rfl; rfl; rfl; apply Tri.op; rfl; apply o_extract; rfl; rfl; rfl; apply Tri.op; rfl; apply o_extract; rfl; rfl; rfl; apply Tri.op; rfl; apply o_extract; rfl; rfl; rfl; apply Tri.op; rfl)
  (apply o_alloc; (case hn => rfl); intro b10)
  (apply Tri.op; rfl; apply o_assign; rfl; rfl; apply Tri.op; rfl)
  (apply o_storeAll (ys := rootL R.2.1.1 (R.2.1.2 : Int)); (case hx => rfl); (case hy => rfl); (case p => (with_reducible repeat constructor)); (case hl => rfl); (case hc => rfl); (case h1 => exact two_int _ _))
  (apply Tri.op; rfl; apply o_assign; rfl; rfl; apply Tri.op; rfl; apply o_assign; rfl; rfl; refine Tri.nil (Tri.thenN (Tri.seq (Tri.seq (Tri.region ?_)))); apply Tri.op; rfl; apply o_move; rfl; rfl; apply Tri.op; rfl; apply o_not; rfl; rfl; refine Tri.nil (Tri.thenN ?_))
  ((with_reducible apply Tri.setb 42 (false)); (case h => rfl); (case hi => rfl))
  (apply Tri.condF; rfl; rfl; refine Tri.skip (Tri.thenN (Tri.seq (Tri.region ?_))); apply Tri.op; rfl; apply o_move; rfl; rfl; apply Tri.op; rfl)
  have hT := walk_Spans pv d R.1 hB.ok hB.wt R.2.1.2 R.2.1.1 hB.h5 hB.g hB.C (by rw [hB.E, hlk]; omega) sr lo hi
  rw [hB.E] at hT
  (apply o_loadAll (cs := rootL R.2.1.1 (R.2.1.2 : Int)); (case hx => rfl); (case p => exact (by (with_reducible repeat constructor))); (case hl => rfl); (case hn => rfl))
  (apply Tri.op; rfl; apply o_move; rfl; rfl; apply Tri.op; rfl; apply o_ixArr (j := 0); rfl; rfl; rfl; (first | omega | assumption); rfl; apply Tri.op; rfl; apply o_load; rfl; (with_reducible repeat constructor); rfl; rfl; apply Tri.op; rfl; apply o_ixArr (j := 1); rfl; rfl; rfl; (first | omega | assumption); rfl; apply Tri.op; rfl; apply o_load; rfl; (with_reducible repeat constructor); rfl; rfl; apply Tri.op; rfl)
  (apply o_callS (hs := hT); (case hargs => (repeat first | exact evs.nil | (apply evs.cons; case a => rfl))); (case p => (repeat first | with_reducible constructor | constructor)); (case hn => rfl))
  rintro r2 H2 ⟨A2, c2, rfl, rfl⟩
  (try dsimp only [List.cons_append, List.nil_append])
  (apply Tri.op; rfl; apply o_move; rfl; rfl; apply Tri.op; rfl; apply o_extract; rfl; rfl; rfl; apply Tri.op; rfl; apply o_extract; rfl; rfl; rfl; apply Tri.op; rfl; apply o_assign; rfl; rfl; apply Tri.op; rfl; apply o_assign; rfl; rfl; refine Tri.nil (Tri.thenN (Tri.seq (Tri.region ?_))); apply Tri.op; rfl; apply o_assign; rfl; rfl; refine Tri.nil (Tri.thenN (Tri.seq (Tri.seq (Tri.region ?_)))); apply Tri.op; rfl; apply o_assign; rfl; rfl; refine Tri.nil (Tri.thenN (Tri.block ?_)))
  obtain ⟨OS, hOS⟩ : ∃ OS, OS = spF sr lo hi (bL s k) := ⟨_, rfl⟩
  rw [← hOS]
  have hlo : OS.length ≤ k := by have := spF_len sr lo hi (bL s k); rw [hlk, ← hOS] at this; exact this
  have hz : ([] : List ENT) = spF sr lo hi ((bL s k).take 0) := rfl
  (with_reducible apply Tri.ownNil 103 8)
  ((with_reducible apply Tri.eqA (A := own 103 8 (.slice none 0 0) 0 []) (B := own 103 8 (.slice none 0 0) 0 (EL []))); (case p => (with_reducible repeat constructor)); (case e => rfl))
  (apply Tri.loop (α := Σ' (i : Nat) (o : List ENT) (_ : Option Addr) (_ : Nat), i ≤ k ∧ o = spF sr lo hi ((bL s k).take i)) (m := fun x => k - x.1) (Lx := fun x => [(1, .int .i64 sr), (5, .pointer (some ⟨b5, 0, none⟩)), (9, .pointer (some ⟨pv, 0, none⟩)), (10, .pointer (some ⟨b10, 0, none⟩)), (11, .slice A k c), (13, .slice A2 OS.length c2), (14, .int .i64 0), (15, .slice x.2.2.1 x.2.1.length x.2.2.2.1), (16, .int .i64 (x.1 : Int))]) (Hx := fun x => [own 103 8 (.slice x.2.2.1 x.2.1.length x.2.2.2.1) x.2.1.length (EL x.2.1), own 100 8 (.slice A2 OS.length c2) OS.length (EL OS), blk pv 194 (viewL d R.1), DSK d R.1.S, blk b10 48 (rootL R.2.1.1 (R.2.1.2 : Int)), own 103 8 (.slice A k c) k (EL (bL s k)), blk b5 106 [.int .i64 lo, .int .i64 hi], Ex (hp w)]) (x0 := ⟨0, [], none, 0, Nat.zero_le _, hz⟩); (case hL => ((try dsimp only); (repeat (first | exact trivial | refine And.intro (by rfl) ?_)))); (case hH => ((try dsimp only); apply St.all; (repeat (first | exact Pulls.nil | (apply Pulls.cons; (case a => (first | ((repeat (first | with_reducible exact Gv.Pull.head | with_reducible apply Gv.Pull.tail)); done) | (repeat (first | exact Gv.Pull.head | apply Gv.Pull.tail)))))))))); (rintro ⟨i, o, A7, c7, hi', ho⟩ mx hmx; (try dsimp only at hmx ⊢))
  (refine Tri.seq (Tri.seq (Tri.region ?_)); apply Tri.op; rfl; apply o_move; rfl; rfl; apply Tri.op; rfl; apply o_move; rfl; rfl; apply Tri.op; rfl; apply o_len; rfl; rfl; apply Tri.op; rfl; apply o_lss; rfl; rfl; rfl; refine Tri.nil (Tri.thenN ?_))
  (apply Tri.condD; (case hc => rfl); (all_goals intro hc))
  · have hil : i < k := by omega
    have hil' : i + 1 ≤ k := hil
    obtain ⟨e, he⟩ : ∃ e, e = (bL s k).getD i ent0 := ⟨_, rfl⟩
    have hge : (bL s k)[i]? = some e := by rw [he, List.getD_eq_getElem?_getD, List.getElem?_eq_getElem (by rw [hlk]; exact hil)]; rfl
    have hsu := spF_succ (s := sr) (a := lo) (b := hi) hge
    rw [← ho] at hsu
    have hol : o.length ≤ i := by have := spF_len sr lo hi ((bL s k).take i); rw [← ho, List.length_take] at this; omega
    have k0 := EL_k1 (bL s k) i (by rw [hlk]; exact hil)
    have k1 := EL_k2 (bL s k) i (by rw [hlk]; exact hil)
    have k2 := EL_fin (bL s k) i (by rw [hlk]; exact hil)
    have k8 := EL_eight (bL s k) i (by rw [hlk]; exact hil)
    rw [← he] at k0 k1 k2 k8
    have happ : EL o ++ entL e = EL (o ++ [e]) := by rw [EL_app]; simp [EL]
    (refine Tri.skip (Tri.thenN ?_))
    refine Tri.seq (Tri.block ?_)
    obtain ⟨t, ht⟩ : ∃ t, t = inS sr lo hi e := ⟨_, rfl⟩
    (apply Tri.seqMeet (α := Unit) (Lx := fun _ => [(1, .int .i64 sr), (5, .pointer (some ⟨b5, 0, none⟩)), (9, .pointer (some ⟨pv, 0, none⟩)), (10, .pointer (some ⟨b10, 0, none⟩)), (11, .slice A k c), (13, .slice A2 OS.length c2), (14, .int .i64 0), (15, .slice A7 o.length c7), (16, .int .i64 (i : Int)), (95, .bool t)]) (Hx := fun _ => [own 103 8 (.slice A7 o.length c7) o.length (EL o), own 100 8 (.slice A2 OS.length c2) OS.length (EL OS), blk pv 194 (viewL d R.1), DSK d R.1.S, blk b10 48 (rootL R.2.1.1 (R.2.1.2 : Int)), own 103 8 (.slice A k c) k (EL (bL s k)), blk b5 106 [.int .i64 lo, .int .i64 hi], Ex (hp w)]); rotate_left; (rintro ⟨⟩; (try dsimp only)); rotate_left)
    · ((first | with_reducible apply Tri.mix [own 103 8 (.slice A k c) k (EL (bL s k)), blk b5 106 [.int .i64 lo, .int .i64 hi]] | (apply TriR.mix [own 103 8 (.slice A k c) k (EL (bL s k)), blk b5 106 [.int .i64 lo, .int .i64 hi]]; (case hnd => rfl))); (case p => (repeat first | with_reducible constructor | constructor)); (dsimp only [List.length]))
      ((first | (apply TriM.q 0; (case ho => rfl); (case hg => rfl)) | (apply TriM.qYes 0; (case ho => rfl); (case hg => rfl); (case hyl => rfl); (case hb => with_reducible rfl))); (case hB => kernel_rfl); (case hd => rfl); (case hn => rfl); (case h => (intro F K hK; (try dsimp only [List.cons_append, List.nil_append]); (apply o_ixArr (j := 0); (case hx => rfl); (case hy => rfl); (case hj => rfl); (case hlt => omega); (case hn => rfl)); exact hK)))
      ((first | (apply TriM.q 1; rfl; rfl) | (apply TriM.qYes 1; rfl; rfl; rfl; with_reducible rfl)); kernel_rfl; rfl; rfl; (intro F K hK; (try dsimp only [List.cons_append, List.nil_append]); apply o_load; rfl; (with_reducible repeat constructor); rfl; rfl; exact hK))
      ((first | (apply TriM.q 2; (case ho => rfl); (case hg => rfl)) | (apply TriM.qYes 2; (case ho => rfl); (case hg => rfl); (case hyl => rfl); (case hb => with_reducible rfl))); (case hB => kernel_rfl); (case hd => rfl); (case hn => rfl); (case h => (intro F K hK; (try dsimp only [List.cons_append, List.nil_append]); (apply o_ixArr (j := 1); (case hx => rfl); (case hy => rfl); (case hj => rfl); (case hlt => omega); (case hn => rfl)); exact hK)))
      ((first | (apply TriM.q 3; rfl; rfl) | (apply TriM.qYes 3; rfl; rfl; rfl; with_reducible rfl)); kernel_rfl; rfl; rfl; (intro F K hK; (try dsimp only [List.cons_append, List.nil_append]); apply o_load; rfl; (with_reducible repeat constructor); rfl; rfl; exact hK); (first | (apply TriM.q 4; rfl; rfl) | (apply TriM.qYes 4; rfl; rfl; rfl; with_reducible rfl)); kernel_rfl; rfl; rfl; (intro F K hK; apply o_leq; rfl; rfl; rfl; exact hK))
      have hi1 : inS sr lo hi e = (decide (lo ≤ hi) && decide (e.key.1 = sr) && decide (e.key.2 ≤ hi) && decide (lo ≤ e.fin)) := rfl
      by_cases c1 : lo ≤ hi
      · rw [decide_eq_true c1, Bool.true_and] at hi1
        ((with_reducible apply TriM.setb 64 (true)); (case h => rfl); (case hi => exact decide_eq_true c1))
        ((first | (apply TriM.q 5; rfl; rfl) | (apply TriM.qYes 5; rfl; rfl; rfl; with_reducible rfl)); kernel_rfl; rfl; rfl; (intro F K hK; apply o_move; rfl; rfl; exact hK); (first | (apply TriM.q 6; rfl; rfl) | (apply TriM.qYes 6; rfl; rfl; rfl; with_reducible rfl)); kernel_rfl; rfl; rfl; (intro F K hK; apply o_move; rfl; rfl; exact hK); (first | (apply TriM.q 7; rfl; rfl) | (apply TriM.qYes 7; rfl; rfl; rfl; with_reducible rfl)); kernel_rfl; rfl; rfl; (intro F K hK; apply o_move; rfl; rfl; exact hK))
        ((first | (apply TriM.q 8; (case ho => rfl); (case hg => rfl)) | (apply TriM.qYes 8; (case ho => rfl); (case hg => rfl); (case hyl => rfl); (case hb => with_reducible rfl))); (case hB => kernel_rfl); (case hd => rfl); (case hn => rfl); (case h => (intro F K hK; (try dsimp only [List.cons_append, List.nil_append]); (apply o_ixOwn (j := i); (case hx => rfl); (case hy => rfl); (case p => (with_reducible repeat constructor)); (case hj => rfl); (case hlt => exact hil); (case hn => rfl)); exact hK)))
        ((first | (apply TriM.q 9; rfl; rfl) | (apply TriM.qYes 9; rfl; rfl; rfl; with_reducible rfl)); kernel_rfl; rfl; rfl; (intro F K hK; apply o_fieldE; rfl; rfl; exact hK); (first | (apply TriM.q 10; rfl; rfl) | (apply TriM.qYes 10; rfl; rfl; rfl; with_reducible rfl)); kernel_rfl; rfl; rfl; (intro F K hK; apply o_fieldE; rfl; rfl; exact hK))
        ((first | (apply TriM.q 11; (case ho => rfl); (case hg => rfl)) | (apply TriM.qYes 11; (case ho => rfl); (case hg => rfl); (case hyl => rfl); (case hb => with_reducible rfl))); (case hB => kernel_rfl); (case hd => rfl); (case hn => rfl); (case h => (intro F K hK; (try dsimp only [List.cons_append, List.nil_append]); (apply o_loadOwn (j := i * 8 + 0); (case hx => rfl); (case p => (with_reducible repeat constructor)); (case hv => exact k0); (case hn => rfl)); exact hK)))
        ((first | (apply TriM.q 12; rfl; rfl) | (apply TriM.qYes 12; rfl; rfl; rfl; with_reducible rfl)); kernel_rfl; rfl; rfl; (intro F K hK; apply o_move; rfl; rfl; exact hK); (first | (apply TriM.q 13; rfl; rfl) | (apply TriM.qYes 13; rfl; rfl; rfl; with_reducible rfl)); kernel_rfl; rfl; rfl; (intro F K hK; apply o_eql; rfl; rfl; rfl; exact hK))
        by_cases c3 : e.key.1 = sr
        · rw [decide_eq_true c3, Bool.true_and] at hi1
          ((with_reducible apply TriM.setb 73 (true)); (case h => rfl); (case hi => exact decide_eq_true c3))
          ((first | (apply TriM.q 14; rfl; rfl) | (apply TriM.qYes 14; rfl; rfl; rfl; with_reducible rfl)); kernel_rfl; rfl; rfl; (intro F K hK; apply o_pickT; (iterate 4 rfl); exact hK); (first | (apply TriM.q 15; rfl; rfl) | (apply TriM.qYes 15; rfl; rfl; rfl; with_reducible rfl)); kernel_rfl; rfl; rfl; (intro F K hK; apply o_move; rfl; rfl; exact hK); (first | (apply TriM.q 16; rfl; rfl) | (apply TriM.qYes 16; rfl; rfl; rfl; with_reducible rfl)); kernel_rfl; rfl; rfl; (intro F K hK; apply o_move; rfl; rfl; exact hK); (first | (apply TriM.q 17; rfl; rfl) | (apply TriM.qYes 17; rfl; rfl; rfl; with_reducible rfl)); kernel_rfl; rfl; rfl; (intro F K hK; apply o_move; rfl; rfl; exact hK))
          ((first | (apply TriM.q 18; (case ho => rfl); (case hg => rfl)) | (apply TriM.qYes 18; (case ho => rfl); (case hg => rfl); (case hyl => rfl); (case hb => with_reducible rfl))); (case hB => kernel_rfl); (case hd => rfl); (case hn => rfl); (case h => (intro F K hK; (try dsimp only [List.cons_append, List.nil_append]); (apply o_ixOwn (j := i); (case hx => rfl); (case hy => rfl); (case p => (with_reducible repeat constructor)); (case hj => rfl); (case hlt => exact hil); (case hn => rfl)); exact hK)))
          ((first | (apply TriM.q 19; rfl; rfl) | (apply TriM.qYes 19; rfl; rfl; rfl; with_reducible rfl)); kernel_rfl; rfl; rfl; (intro F K hK; apply o_fieldE; rfl; rfl; exact hK); (first | (apply TriM.q 20; rfl; rfl) | (apply TriM.qYes 20; rfl; rfl; rfl; with_reducible rfl)); kernel_rfl; rfl; rfl; (intro F K hK; apply o_fieldE; rfl; rfl; exact hK))
          ((first | (apply TriM.q 21; (case ho => rfl); (case hg => rfl)) | (apply TriM.qYes 21; (case ho => rfl); (case hg => rfl); (case hyl => rfl); (case hb => with_reducible rfl))); (case hB => kernel_rfl); (case hd => rfl); (case hn => rfl); (case h => (intro F K hK; (try dsimp only [List.cons_append, List.nil_append]); (apply o_loadOwn (j := i * 8 + 1); (case hx => rfl); (case p => (with_reducible repeat constructor)); (case hv => exact k1); (case hn => rfl)); exact hK)))
          ((first | (apply TriM.q 22; (case ho => rfl); (case hg => rfl)) | (apply TriM.qYes 22; (case ho => rfl); (case hg => rfl); (case hyl => rfl); (case hb => with_reducible rfl))); (case hB => kernel_rfl); (case hd => rfl); (case hn => rfl); (case h => (intro F K hK; (try dsimp only [List.cons_append, List.nil_append]); (apply o_ixArr (j := 1); (case hx => rfl); (case hy => rfl); (case hj => rfl); (case hlt => omega); (case hn => rfl)); exact hK)))
          ((first | (apply TriM.q 23; rfl; rfl) | (apply TriM.qYes 23; rfl; rfl; rfl; with_reducible rfl)); kernel_rfl; rfl; rfl; (intro F K hK; (try dsimp only [List.cons_append, List.nil_append]); apply o_load; rfl; (with_reducible repeat constructor); rfl; rfl; exact hK); (first | (apply TriM.q 24; rfl; rfl) | (apply TriM.qYes 24; rfl; rfl; rfl; with_reducible rfl)); kernel_rfl; rfl; rfl; (intro F K hK; apply o_leq; rfl; rfl; rfl; exact hK))
          by_cases c4 : e.key.2 ≤ hi
          · rw [decide_eq_true c4, Bool.true_and] at hi1
            ((with_reducible apply TriM.setb 84 (true)); (case h => rfl); (case hi => exact decide_eq_true c4))
            ((first | (apply TriM.q 25; rfl; rfl) | (apply TriM.qYes 25; rfl; rfl; rfl; with_reducible rfl)); kernel_rfl; rfl; rfl; (intro F K hK; apply o_pickT; (iterate 4 rfl); exact hK); (first | (apply TriM.q 26; rfl; rfl) | (apply TriM.qYes 26; rfl; rfl; rfl; with_reducible rfl)); kernel_rfl; rfl; rfl; (intro F K hK; apply o_move; rfl; rfl; exact hK); (first | (apply TriM.q 27; rfl; rfl) | (apply TriM.qYes 27; rfl; rfl; rfl; with_reducible rfl)); kernel_rfl; rfl; rfl; (intro F K hK; apply o_move; rfl; rfl; exact hK); (first | (apply TriM.q 28; rfl; rfl) | (apply TriM.qYes 28; rfl; rfl; rfl; with_reducible rfl)); kernel_rfl; rfl; rfl; (intro F K hK; apply o_move; rfl; rfl; exact hK))
            ((first | (apply TriM.q 29; (case ho => rfl); (case hg => rfl)) | (apply TriM.qYes 29; (case ho => rfl); (case hg => rfl); (case hyl => rfl); (case hb => with_reducible rfl))); (case hB => kernel_rfl); (case hd => rfl); (case hn => rfl); (case h => (intro F K hK; (try dsimp only [List.cons_append, List.nil_append]); (apply o_ixOwn (j := i); (case hx => rfl); (case hy => rfl); (case p => (with_reducible repeat constructor)); (case hj => rfl); (case hlt => exact hil); (case hn => rfl)); exact hK)))
            ((first | (apply TriM.q 30; rfl; rfl) | (apply TriM.qYes 30; rfl; rfl; rfl; with_reducible rfl)); kernel_rfl; rfl; rfl; (intro F K hK; apply o_fieldE; rfl; rfl; exact hK))
            ((first | (apply TriM.q 31; (case ho => rfl); (case hg => rfl)) | (apply TriM.qYes 31; (case ho => rfl); (case hg => rfl); (case hyl => rfl); (case hb => with_reducible rfl))); (case hB => kernel_rfl); (case hd => rfl); (case hn => rfl); (case h => (intro F K hK; (try dsimp only [List.cons_append, List.nil_append]); (apply o_loadOwn (j := i * 8 + 2); (case hx => rfl); (case p => (with_reducible repeat constructor)); (case hv => exact k2); (case hn => rfl)); exact hK)))
            ((first | (apply TriM.q 32; (case ho => rfl); (case hg => rfl)) | (apply TriM.qYes 32; (case ho => rfl); (case hg => rfl); (case hyl => rfl); (case hb => with_reducible rfl))); (case hB => kernel_rfl); (case hd => rfl); (case hn => rfl); (case h => (intro F K hK; (try dsimp only [List.cons_append, List.nil_append]); (apply o_ixArr (j := 0); (case hx => rfl); (case hy => rfl); (case hj => rfl); (case hlt => omega); (case hn => rfl)); exact hK)))
            ((first | (apply TriM.q 33; rfl; rfl) | (apply TriM.qYes 33; rfl; rfl; rfl; with_reducible rfl)); kernel_rfl; rfl; rfl; (intro F K hK; (try dsimp only [List.cons_append, List.nil_append]); apply o_load; rfl; (with_reducible repeat constructor); rfl; rfl; exact hK); (first | (apply TriM.q 34; rfl; rfl) | (apply TriM.qYes 34; rfl; rfl; rfl; with_reducible rfl)); kernel_rfl; rfl; rfl; (intro F K hK; apply o_geq; rfl; rfl; rfl; exact hK); (first | (apply TriM.q 35; rfl; rfl) | (apply TriM.qYes 35; rfl; rfl; rfl; with_reducible rfl)); kernel_rfl; rfl; rfl; (intro F K hK; apply o_pickT; (iterate 4 rfl); exact hK))
            (apply TriM.nil; (case hr => kernel_rfl); (try dsimp only [List.cons_append, List.nil_append]))
            ((with_reducible apply Tri.setb 95 (t)); (case h => rfl); (case hi => exact ((ht.trans hi1).trans (decide_eq_decide.2 Iff.rfl)).symm))
            (refine Tri.thenN ?_)
            (apply Tri.reach (y := ()); (case hL => ((try dsimp only); (repeat (first | exact trivial | refine And.intro (by rfl) ?_)))); (case p => ((try dsimp only); (repeat (first | exact Pulls.nil | (apply Pulls.cons; (case a => (first | ((repeat (first | with_reducible exact Gv.Pull.head | with_reducible apply Gv.Pull.tail)); done) | (repeat (first | exact Gv.Pull.head | apply Gv.Pull.tail))))))))))
          · rw [decide_eq_false c4, Bool.false_and] at hi1
            ((with_reducible apply TriM.setb 84 (false)); (case h => rfl); (case hi => exact decide_eq_false c4))
            ((first | (apply TriM.q 25; rfl; rfl) | (apply TriM.qYes 25; rfl; rfl; rfl; with_reducible rfl)); kernel_rfl; rfl; rfl; (intro F K hK; apply o_pickT; (iterate 4 rfl); exact hK); (first | (apply TriM.q 26; rfl; rfl) | (apply TriM.qYes 26; rfl; rfl; rfl; with_reducible rfl)); kernel_rfl; rfl; rfl; (intro F K hK; apply o_move; rfl; rfl; exact hK); (apply TriM.qNo (c := false) 27; (case ho => rfl); (case hg => rfl); (case hyl => rfl); (case hb => with_reducible rfl); (case hc => rfl); (case hB => kernel_rfl); (case hd => rfl); (case hn => rfl)); (apply TriM.qNo (c := false) 28; (case ho => rfl); (case hg => rfl); (case hyl => rfl); (case hb => with_reducible rfl); (case hc => rfl); (case hB => kernel_rfl); (case hd => rfl); (case hn => rfl)); (apply TriM.qNo (c := false) 29; (case ho => rfl); (case hg => rfl); (case hyl => rfl); (case hb => with_reducible rfl); (case hc => rfl); (case hB => kernel_rfl); (case hd => rfl); (case hn => rfl)); (apply TriM.qNo (c := false) 30; (case ho => rfl); (case hg => rfl); (case hyl => rfl); (case hb => with_reducible rfl); (case hc => rfl); (case hB => kernel_rfl); (case hd => rfl); (case hn => rfl)); (apply TriM.qNo (c := false) 31; (case ho => rfl); (case hg => rfl); (case hyl => rfl); (case hb => with_reducible rfl); (case hc => rfl); (case hB => kernel_rfl); (case hd => rfl); (case hn => rfl)); (apply TriM.qNo (c := false) 32; (case ho => rfl); (case hg => rfl); (case hyl => rfl); (case hb => with_reducible rfl); (case hc => rfl); (case hB => kernel_rfl); (case hd => rfl); (case hn => rfl)); (apply TriM.qNo (c := false) 33; (case ho => rfl); (case hg => rfl); (case hyl => rfl); (case hb => with_reducible rfl); (case hc => rfl); (case hB => kernel_rfl); (case hd => rfl); (case hn => rfl)); (apply TriM.qNo (c := false) 34; (case ho => rfl); (case hg => rfl); (case hyl => rfl); (case hb => with_reducible rfl); (case hc => rfl); (case hB => kernel_rfl); (case hd => rfl); (case hn => rfl)); (first | (apply TriM.q 35; rfl; rfl) | (apply TriM.qYes 35; rfl; rfl; rfl; with_reducible rfl)); kernel_rfl; rfl; rfl; (intro F K hK; apply o_pickF; (iterate 4 rfl); exact hK))
            (apply TriM.nil; (case hr => kernel_rfl); (try dsimp only [List.cons_append, List.nil_append]))
            ((with_reducible apply Tri.setb 95 (t)); (case h => rfl); (case hi => exact (ht.trans hi1).symm))
            (refine Tri.thenN ?_)
            (apply Tri.reach (y := ()); (case hL => ((try dsimp only); (repeat (first | exact trivial | refine And.intro (by rfl) ?_)))); (case p => ((try dsimp only); (repeat (first | exact Pulls.nil | (apply Pulls.cons; (case a => (first | ((repeat (first | with_reducible exact Gv.Pull.head | with_reducible apply Gv.Pull.tail)); done) | (repeat (first | exact Gv.Pull.head | apply Gv.Pull.tail))))))))))
        · rw [decide_eq_false c3, Bool.false_and, Bool.false_and] at hi1
          ((with_reducible apply TriM.setb 73 (false)); (case h => rfl); (case hi => exact decide_eq_false c3))
          ((first | (apply TriM.q 14; rfl; rfl) | (apply TriM.qYes 14; rfl; rfl; rfl; with_reducible rfl)); kernel_rfl; rfl; rfl; (intro F K hK; apply o_pickT; (iterate 4 rfl); exact hK); (first | (apply TriM.q 15; rfl; rfl) | (apply TriM.qYes 15; rfl; rfl; rfl; with_reducible rfl)); kernel_rfl; rfl; rfl; (intro F K hK; apply o_move; rfl; rfl; exact hK); (apply TriM.qNo (c := false) 16; (case ho => rfl); (case hg => rfl); (case hyl => rfl); (case hb => with_reducible rfl); (case hc => rfl); (case hB => kernel_rfl); (case hd => rfl); (case hn => rfl)); (apply TriM.qNo (c := false) 17; (case ho => rfl); (case hg => rfl); (case hyl => rfl); (case hb => with_reducible rfl); (case hc => rfl); (case hB => kernel_rfl); (case hd => rfl); (case hn => rfl)); (apply TriM.qNo (c := false) 18; (case ho => rfl); (case hg => rfl); (case hyl => rfl); (case hb => with_reducible rfl); (case hc => rfl); (case hB => kernel_rfl); (case hd => rfl); (case hn => rfl)); (apply TriM.qNo (c := false) 19; (case ho => rfl); (case hg => rfl); (case hyl => rfl); (case hb => with_reducible rfl); (case hc => rfl); (case hB => kernel_rfl); (case hd => rfl); (case hn => rfl)); (apply TriM.qNo (c := false) 20; (case ho => rfl); (case hg => rfl); (case hyl => rfl); (case hb => with_reducible rfl); (case hc => rfl); (case hB => kernel_rfl); (case hd => rfl); (case hn => rfl)); (apply TriM.qNo (c := false) 21; (case ho => rfl); (case hg => rfl); (case hyl => rfl); (case hb => with_reducible rfl); (case hc => rfl); (case hB => kernel_rfl); (case hd => rfl); (case hn => rfl)); (apply TriM.qNo (c := false) 22; (case ho => rfl); (case hg => rfl); (case hyl => rfl); (case hb => with_reducible rfl); (case hc => rfl); (case hB => kernel_rfl); (case hd => rfl); (case hn => rfl)); (apply TriM.qNo (c := false) 23; (case ho => rfl); (case hg => rfl); (case hyl => rfl); (case hb => with_reducible rfl); (case hc => rfl); (case hB => kernel_rfl); (case hd => rfl); (case hn => rfl)); (apply TriM.qNo (c := false) 24; (case ho => rfl); (case hg => rfl); (case hyl => rfl); (case hb => with_reducible rfl); (case hc => rfl); (case hB => kernel_rfl); (case hd => rfl); (case hn => rfl)); (first | (apply TriM.q 25; rfl; rfl) | (apply TriM.qYes 25; rfl; rfl; rfl; with_reducible rfl)); kernel_rfl; rfl; rfl; (intro F K hK; apply o_pickF; (iterate 4 rfl); exact hK); (first | (apply TriM.q 26; rfl; rfl) | (apply TriM.qYes 26; rfl; rfl; rfl; with_reducible rfl)); kernel_rfl; rfl; rfl; (intro F K hK; apply o_move; rfl; rfl; exact hK); (apply TriM.qNo (c := false) 27; (case ho => rfl); (case hg => rfl); (case hyl => rfl); (case hb => with_reducible rfl); (case hc => rfl); (case hB => kernel_rfl); (case hd => rfl); (case hn => rfl)); (apply TriM.qNo (c := false) 28; (case ho => rfl); (case hg => rfl); (case hyl => rfl); (case hb => with_reducible rfl); (case hc => rfl); (case hB => kernel_rfl); (case hd => rfl); (case hn => rfl)); (apply TriM.qNo (c := false) 29; (case ho => rfl); (case hg => rfl); (case hyl => rfl); (case hb => with_reducible rfl); (case hc => rfl); (case hB => kernel_rfl); (case hd => rfl); (case hn => rfl)); (apply TriM.qNo (c := false) 30; (case ho => rfl); (case hg => rfl); (case hyl => rfl); (case hb => with_reducible rfl); (case hc => rfl); (case hB => kernel_rfl); (case hd => rfl); (case hn => rfl)); (apply TriM.qNo (c := false) 31; (case ho => rfl); (case hg => rfl); (case hyl => rfl); (case hb => with_reducible rfl); (case hc => rfl); (case hB => kernel_rfl); (case hd => rfl); (case hn => rfl)); (apply TriM.qNo (c := false) 32; (case ho => rfl); (case hg => rfl); (case hyl => rfl); (case hb => with_reducible rfl); (case hc => rfl); (case hB => kernel_rfl); (case hd => rfl); (case hn => rfl)); (apply TriM.qNo (c := false) 33; (case ho => rfl); (case hg => rfl); (case hyl => rfl); (case hb => with_reducible rfl); (case hc => rfl); (case hB => kernel_rfl); (case hd => rfl); (case hn => rfl)); (apply TriM.qNo (c := false) 34; (case ho => rfl); (case hg => rfl); (case hyl => rfl); (case hb => with_reducible rfl); (case hc => rfl); (case hB => kernel_rfl); (case hd => rfl); (case hn => rfl)); (first | (apply TriM.q 35; rfl; rfl) | (apply TriM.qYes 35; rfl; rfl; rfl; with_reducible rfl)); kernel_rfl; rfl; rfl; (intro F K hK; apply o_pickF; (iterate 4 rfl); exact hK))
          (apply TriM.nil; (case hr => kernel_rfl); (try dsimp only [List.cons_append, List.nil_append]))
          ((with_reducible apply Tri.setb 95 (t)); (case h => rfl); (case hi => exact (ht.trans hi1).symm))
          (refine Tri.thenN ?_)
          (apply Tri.reach (y := ()); (case hL => ((try dsimp only); (repeat (first | exact trivial | refine And.intro (by rfl) ?_)))); (case p => ((try dsimp only); (repeat (first | exact Pulls.nil | (apply Pulls.cons; (case a => (first | ((repeat (first | with_reducible exact Gv.Pull.head | with_reducible apply Gv.Pull.tail)); done) | (repeat (first | exact Gv.Pull.head | apply Gv.Pull.tail))))))))))
      · rw [decide_eq_false c1, Bool.false_and, Bool.false_and, Bool.false_and] at hi1
        ((with_reducible apply TriM.setb 64 (false)); (case h => rfl); (case hi => exact decide_eq_false c1))
        ((first | (apply TriM.q 5; rfl; rfl) | (apply TriM.qYes 5; rfl; rfl; rfl; with_reducible rfl)); kernel_rfl; rfl; rfl; (intro F K hK; apply o_move; rfl; rfl; exact hK); (apply TriM.qNo (c := false) 6; (case ho => rfl); (case hg => rfl); (case hyl => rfl); (case hb => with_reducible rfl); (case hc => rfl); (case hB => kernel_rfl); (case hd => rfl); (case hn => rfl)); (apply TriM.qNo (c := false) 7; (case ho => rfl); (case hg => rfl); (case hyl => rfl); (case hb => with_reducible rfl); (case hc => rfl); (case hB => kernel_rfl); (case hd => rfl); (case hn => rfl)); (apply TriM.qNo (c := false) 8; (case ho => rfl); (case hg => rfl); (case hyl => rfl); (case hb => with_reducible rfl); (case hc => rfl); (case hB => kernel_rfl); (case hd => rfl); (case hn => rfl)); (apply TriM.qNo (c := false) 9; (case ho => rfl); (case hg => rfl); (case hyl => rfl); (case hb => with_reducible rfl); (case hc => rfl); (case hB => kernel_rfl); (case hd => rfl); (case hn => rfl)); (apply TriM.qNo (c := false) 10; (case ho => rfl); (case hg => rfl); (case hyl => rfl); (case hb => with_reducible rfl); (case hc => rfl); (case hB => kernel_rfl); (case hd => rfl); (case hn => rfl)); (apply TriM.qNo (c := false) 11; (case ho => rfl); (case hg => rfl); (case hyl => rfl); (case hb => with_reducible rfl); (case hc => rfl); (case hB => kernel_rfl); (case hd => rfl); (case hn => rfl)); (apply TriM.qNo (c := false) 12; (case ho => rfl); (case hg => rfl); (case hyl => rfl); (case hb => with_reducible rfl); (case hc => rfl); (case hB => kernel_rfl); (case hd => rfl); (case hn => rfl)); (apply TriM.qNo (c := false) 13; (case ho => rfl); (case hg => rfl); (case hyl => rfl); (case hb => with_reducible rfl); (case hc => rfl); (case hB => kernel_rfl); (case hd => rfl); (case hn => rfl)); (first | (apply TriM.q 14; rfl; rfl) | (apply TriM.qYes 14; rfl; rfl; rfl; with_reducible rfl)); kernel_rfl; rfl; rfl; (intro F K hK; apply o_pickF; (iterate 4 rfl); exact hK); (first | (apply TriM.q 15; rfl; rfl) | (apply TriM.qYes 15; rfl; rfl; rfl; with_reducible rfl)); kernel_rfl; rfl; rfl; (intro F K hK; apply o_move; rfl; rfl; exact hK); (apply TriM.qNo (c := false) 16; (case ho => rfl); (case hg => rfl); (case hyl => rfl); (case hb => with_reducible rfl); (case hc => rfl); (case hB => kernel_rfl); (case hd => rfl); (case hn => rfl)); (apply TriM.qNo (c := false) 17; (case ho => rfl); (case hg => rfl); (case hyl => rfl); (case hb => with_reducible rfl); (case hc => rfl); (case hB => kernel_rfl); (case hd => rfl); (case hn => rfl)); (apply TriM.qNo (c := false) 18; (case ho => rfl); (case hg => rfl); (case hyl => rfl); (case hb => with_reducible rfl); (case hc => rfl); (case hB => kernel_rfl); (case hd => rfl); (case hn => rfl)); (apply TriM.qNo (c := false) 19; (case ho => rfl); (case hg => rfl); (case hyl => rfl); (case hb => with_reducible rfl); (case hc => rfl); (case hB => kernel_rfl); (case hd => rfl); (case hn => rfl)); (apply TriM.qNo (c := false) 20; (case ho => rfl); (case hg => rfl); (case hyl => rfl); (case hb => with_reducible rfl); (case hc => rfl); (case hB => kernel_rfl); (case hd => rfl); (case hn => rfl)); (apply TriM.qNo (c := false) 21; (case ho => rfl); (case hg => rfl); (case hyl => rfl); (case hb => with_reducible rfl); (case hc => rfl); (case hB => kernel_rfl); (case hd => rfl); (case hn => rfl)); (apply TriM.qNo (c := false) 22; (case ho => rfl); (case hg => rfl); (case hyl => rfl); (case hb => with_reducible rfl); (case hc => rfl); (case hB => kernel_rfl); (case hd => rfl); (case hn => rfl)); (apply TriM.qNo (c := false) 23; (case ho => rfl); (case hg => rfl); (case hyl => rfl); (case hb => with_reducible rfl); (case hc => rfl); (case hB => kernel_rfl); (case hd => rfl); (case hn => rfl)); (apply TriM.qNo (c := false) 24; (case ho => rfl); (case hg => rfl); (case hyl => rfl); (case hb => with_reducible rfl); (case hc => rfl); (case hB => kernel_rfl); (case hd => rfl); (case hn => rfl)); (first | (apply TriM.q 25; rfl; rfl) | (apply TriM.qYes 25; rfl; rfl; rfl; with_reducible rfl)); kernel_rfl; rfl; rfl; (intro F K hK; apply o_pickF; (iterate 4 rfl); exact hK); (first | (apply TriM.q 26; rfl; rfl) | (apply TriM.qYes 26; rfl; rfl; rfl; with_reducible rfl)); kernel_rfl; rfl; rfl; (intro F K hK; apply o_move; rfl; rfl; exact hK); (apply TriM.qNo (c := false) 27; (case ho => rfl); (case hg => rfl); (case hyl => rfl); (case hb => with_reducible rfl); (case hc => rfl); (case hB => kernel_rfl); (case hd => rfl); (case hn => rfl)); (apply TriM.qNo (c := false) 28; (case ho => rfl); (case hg => rfl); (case hyl => rfl); (case hb => with_reducible rfl); (case hc => rfl); (case hB => kernel_rfl); (case hd => rfl); (case hn => rfl)); (apply TriM.qNo (c := false) 29; (case ho => rfl); (case hg => rfl); (case hyl => rfl); (case hb => with_reducible rfl); (case hc => rfl); (case hB => kernel_rfl); (case hd => rfl); (case hn => rfl)); (apply TriM.qNo (c := false) 30; (case ho => rfl); (case hg => rfl); (case hyl => rfl); (case hb => with_reducible rfl); (case hc => rfl); (case hB => kernel_rfl); (case hd => rfl); (case hn => rfl)); (apply TriM.qNo (c := false) 31; (case ho => rfl); (case hg => rfl); (case hyl => rfl); (case hb => with_reducible rfl); (case hc => rfl); (case hB => kernel_rfl); (case hd => rfl); (case hn => rfl)); (apply TriM.qNo (c := false) 32; (case ho => rfl); (case hg => rfl); (case hyl => rfl); (case hb => with_reducible rfl); (case hc => rfl); (case hB => kernel_rfl); (case hd => rfl); (case hn => rfl)); (apply TriM.qNo (c := false) 33; (case ho => rfl); (case hg => rfl); (case hyl => rfl); (case hb => with_reducible rfl); (case hc => rfl); (case hB => kernel_rfl); (case hd => rfl); (case hn => rfl)); (apply TriM.qNo (c := false) 34; (case ho => rfl); (case hg => rfl); (case hyl => rfl); (case hb => with_reducible rfl); (case hc => rfl); (case hB => kernel_rfl); (case hd => rfl); (case hn => rfl)); (first | (apply TriM.q 35; rfl; rfl) | (apply TriM.qYes 35; rfl; rfl; rfl; with_reducible rfl)); kernel_rfl; rfl; rfl; (intro F K hK; apply o_pickF; (iterate 4 rfl); exact hK))
        (apply TriM.nil; (case hr => kernel_rfl); (try dsimp only [List.cons_append, List.nil_append]))
        ((with_reducible apply Tri.setb 95 (t)); (case h => rfl); (case hi => exact (ht.trans hi1).symm))
        (refine Tri.thenN ?_)
        (apply Tri.reach (y := ()); (case hL => ((try dsimp only); (repeat (first | exact trivial | refine And.intro (by rfl) ?_)))); (case p => ((try dsimp only); (repeat (first | exact Pulls.nil | (apply Pulls.cons; (case a => (first | ((repeat (first | with_reducible exact Gv.Pull.head | with_reducible apply Gv.Pull.tail)); done) | (repeat (first | exact Gv.Pull.head | apply Gv.Pull.tail))))))))))
    cases t with
    | true =>
      rw [if_pos ht.symm] at hsu
      (apply Tri.condT; rfl; rfl; refine Tri.region ?_; apply Tri.op; rfl; apply o_move; rfl; rfl; apply Tri.op; rfl; apply o_move; rfl; rfl; apply Tri.op; rfl; apply o_move; rfl; rfl; apply Tri.op; rfl)
      (apply o_ixOwn (j := i); (case hx => rfl); (case hy => rfl); (case p => (with_reducible repeat constructor)); (case hj => rfl); (case hlt => exact hil); (case hn => rfl))
      (apply Tri.op; rfl)
      (apply o_loadAggOwn (ys := entL e); (case hx => rfl); (case p => exact (by (with_reducible repeat constructor))); (case hv => exact k8); (case hl => rfl); (case hn => rfl))
      (apply Tri.op; rfl)
      (apply o_litSl (ys := entL e); (case hp => (repeat first | exact pev.nil | (apply pev.cons; case a => rfl))); (case hm => rfl); (case hf => rfl); (case hn => rfl); intro vl)
      (apply Tri.op; rfl)
      (apply o_append (m2 := 1) (news := entL e); (case hx => rfl); (case hy => rfl); (case p => (with_reducible repeat constructor)); (case hr => exact rdw_own (v := vl) (by (with_reducible repeat constructor))); (case hl => rfl); (case h1 => exact entL_one5 e); (case hb => omega); (case hn => rfl))
      intro vr
      (refine Tri.shape (e := 103) (size := 8) (v := vr) (by (with_reducible repeat constructor)) ?_; rintro ⟨A3, c3, rfl⟩)
      have hlo' : (o ++ [e]).length = o.length + 1 := by simp
      ((with_reducible apply Tri.eqA (A := own 103 8 (.slice A3 (o.length + 1) c3) _ _) (B := own 103 8 (.slice A3 (o ++ [e]).length c3) (o ++ [e]).length (EL (o ++ [e])))); (case p => (with_reducible repeat constructor)); (case e => (rw [happ, hlo'])))
      (apply Tri.op; rfl; apply o_assign; rfl; rfl; refine Tri.nil (Tri.blockN (Tri.thenN (Tri.region ?_))); apply Tri.op; rfl; apply o_move; rfl; rfl; apply Tri.op; rfl; apply o_add64; rfl; rfl; rfl; (omega); apply Tri.op; rfl; apply o_assign; rfl; rfl; refine Tri.nil (Tri.thenN ?_))
      ((with_reducible apply Tri.setv 15 ((.slice A3 (o ++ [e]).length c3))); (case h => rfl); (case hv => (rw [hlo'])))
      ((with_reducible apply Tri.seti 16 (((i + 1 : Nat) : Int))); (case h => rfl); (case hi => omega))
      (apply Tri.again (y := ⟨i + 1, o ++ [e], A3, c3, hil', hsu.symm⟩); (case p => ((try dsimp only); (repeat (first | exact Pulls.nil | (apply Pulls.cons; (case a => (first | ((repeat (first | with_reducible exact Gv.Pull.head | with_reducible apply Gv.Pull.tail)); done) | (repeat (first | exact Gv.Pull.head | apply Gv.Pull.tail))))))))); (case hm => ((try dsimp only); omega)); (try dsimp only))
      (repeat (first | exact trivial | refine And.intro (by rfl) ?_))
    | false =>
      rw [if_neg (by rw [← ht]; decide)] at hsu
      (apply Tri.condF; rfl; rfl; refine Tri.skip (Tri.blockN (Tri.thenN (Tri.region ?_))); apply Tri.op; rfl; apply o_move; rfl; rfl; apply Tri.op; rfl; apply o_add64; rfl; rfl; rfl; (omega); apply Tri.op; rfl; apply o_assign; rfl; rfl; refine Tri.nil (Tri.thenN ?_))
      ((with_reducible apply Tri.seti 16 (((i + 1 : Nat) : Int))); (case h => rfl); (case hi => omega))
      (apply Tri.again (y := ⟨i + 1, o, A7, c7, hil', hsu.symm⟩); (case p => ((try dsimp only); (repeat (first | exact Pulls.nil | (apply Pulls.cons; (case a => (first | ((repeat (first | with_reducible exact Gv.Pull.head | with_reducible apply Gv.Pull.tail)); done) | (repeat (first | exact Gv.Pull.head | apply Gv.Pull.tail))))))))); (case hm => ((try dsimp only); omega)); (try dsimp only))
      (repeat (first | exact trivial | refine And.intro (by rfl) ?_))
  · have hik : i = k := by omega
    subst hik
    have ho2 : o = OS := by rw [ho, hOS, List.take_of_length_le (by rw [hlk]; exact Nat.le_refl _)]
    subst ho2
    ((with_reducible refine Tri.exit (Tri.thenE (Tri.thenE (Tri.blockE (Tri.thenN (Tri.seq (Tri.region ?_))))))); apply Tri.op; rfl)
    (apply o_loadAll (cs := rootL R.2.1.1 (R.2.1.2 : Int)); (case hx => rfl); (case p => exact (by (with_reducible repeat constructor))); (case hl => rfl); (case hn => rfl))
    (apply Tri.op; rfl; apply o_move; rfl; rfl; apply Tri.op; rfl)
    (apply o_callV (hs := walk_Spans_bad none R.2.1.1 (R.2.1.2 : Int) (.inl rfl) sr 0 1); (case hargs => (repeat first | exact evs.nil | (apply evs.cons; case a => rfl))); (case hpre => exact fun _ _ => trivial); (case hn => rfl))
    (apply Tri.op; rfl; apply o_move; rfl; rfl; apply Tri.op; rfl; apply o_extract; rfl; rfl; rfl; apply Tri.op; rfl; apply o_extract; rfl; rfl; rfl; apply Tri.op; rfl; apply o_assign; rfl; rfl; apply Tri.op; rfl; apply o_assign; rfl; rfl; refine Tri.nil (Tri.thenN (Tri.seq (Tri.region ?_))); apply Tri.op; rfl; apply o_move; rfl; rfl; apply Tri.op; rfl)
    have h9 : (5 : Int) < 9 := by decide
    (apply o_build (ys := [.int .i64 0, .int .i64 9]); (case hp => (repeat first | exact pev.nil | (apply pev.cons; case a => rfl))); (case hf => rfl); (case hn => rfl))
    (apply Tri.op; rfl)
    (apply o_callV (hs := walk_Series_bad (some pv) 0 9 (.inr (.inr h9))); (case hargs => (repeat first | exact evs.nil | (apply evs.cons; case a => rfl))); (case hpre => exact fun _ _ => trivial); (case hn => rfl))
    (apply Tri.op; rfl; apply o_move; rfl; rfl; apply Tri.op; rfl; apply o_extract; rfl; rfl; rfl; apply Tri.op; rfl; apply o_extract; rfl; rfl; rfl; apply Tri.op; rfl; apply o_assign; rfl; rfl; apply Tri.op; rfl; apply o_assign; rfl; rfl; refine Tri.nil (Tri.thenN (Tri.seq (Tri.region ?_))); apply Tri.op; rfl; apply o_move; rfl; rfl; apply Tri.op; rfl; apply o_eql; rfl; rfl; rfl; apply Tri.op; rfl; apply o_move; rfl; rfl)
    have hb : o.length ≤ 1000000 := by omega
    ((with_reducible apply Tri.setb 117 (true)); (case h => rfl); (case hi => rfl))
    (apply Tri.opYes; rfl; rfl; rfl; apply o_move; rfl; rfl; apply Tri.opYes; rfl; rfl; rfl)
    (apply o_callR (hs := law13_Back (.slice A2 o.length c2) o hb); (case hargs => (repeat first | exact evs.nil | (apply evs.cons; case a => rfl))); (case hpre => exact rdw_own (v := .slice A2 o.length c2) (by (with_reducible repeat constructor))); (case hn => rfl))
    rintro r5 H5 ⟨A5, c5, rfl, rfl⟩
    (try dsimp only [List.cons_append, List.nil_append])
    (apply Tri.opYes; rfl; rfl; rfl; apply o_move; rfl; rfl; apply Tri.opYes; rfl; rfl; rfl)
    (apply o_callV (hs := ref13_Same (.slice A5 o.length c5) (.slice A7 o.length c7) o hb); (case hargs => (repeat first | exact evs.nil | (apply evs.cons; case a => rfl))); (case hpre => exact fun w' hw' => ⟨rdw_own (v := .slice A5 o.length c5) (by (with_reducible repeat constructor)) w' hw', rdw_own (v := .slice A7 o.length c7) (by (with_reducible repeat constructor)) w' hw'⟩); (case hn => rfl))
    (apply Tri.op; rfl; apply o_pickT; (iterate 4 rfl); apply Tri.op; rfl; apply o_move; rfl; rfl; apply Tri.opYes; rfl; rfl; rfl; apply o_move; rfl; rfl; apply Tri.opYes; rfl; rfl; rfl; apply o_eql; rfl; rfl; rfl; apply Tri.op; rfl; apply o_pickT; (iterate 4 rfl); apply Tri.op; rfl; apply o_move; rfl; rfl)
    ((with_reducible apply Tri.setb 123 (true)); (case h => rfl); (case hi => rfl))
    skip
    ((with_reducible apply Tri.setb 127 (true)); (case h => rfl); (case hi => rfl))
    (apply Tri.opYes; rfl; rfl; rfl; apply o_move; rfl; rfl; apply Tri.opYes; rfl; rfl; rfl; apply o_eql; rfl; rfl; rfl; apply Tri.op; rfl; apply o_pickT; (iterate 4 rfl); apply Tri.op; rfl; apply o_assign; rfl; rfl; refine Tri.nil (Tri.thenN (Tri.ret ?_)))
    apply Tri.fin
    case hr => rfl
    case h => exact ResL.cons (Res1.tmp rfl) ResL.nil
    exact fin_law (F := []) w (by (repeat first | with_reducible constructor | constructor)) _ rfl
end Go.Proofs.Ytckdlfbbkemklaa
end
section
/- What came in, as it reads: from the reading of the row's frame to cells. -/
namespace Go.Gv
open Go Go.RowKit
set_option linter.unusedVariables false
set_option linter.unusedSimpArgs false

/-- cells that read as a type says: numbers, truths, texts, arrays, structs, and slices of such -/
def Rds (P : Program) (W : World) : Nat → TypeId → List Value → Prop
  | 0, _, _ => False
  | f + 1, t, cs => match P.underlying t with
    | some .bool => ∃ b, cs = [.bool b]
    | some (.int k) => ∃ n, cs = [.int k n] ∧ k.min ≤ n ∧ n ≤ k.max
    | some .string => ∃ s, cs = [.string s] ∧ s.size ≤ maxLen
    | some (.slice e) => cs = [.slice none 0 0] ∨ ∃ a len cap, cs = [.slice (some a) len cap] ∧ len ≤ cap ∧ cap ≤ maxLen ∧ ∀ i, i < len → ∃ ys, ys.length = P.cellsOf e ∧ (∀ j, j < P.cellsOf e → W.cell? ((a.add (i * P.cellsOf e)).add j) = ys[j]?) ∧ Rds P W f e ys
    | some (.struct fs) => cs.length = P.cellsOf t ∧ ∀ x ∈ fs.toList, Rds P W f x.type ((cs.drop x.offset).take (P.cellsOf x.type))
    | some (.array n e) => cs.length = P.cellsOf t ∧ ∀ i, i < n → Rds P W f e ((cs.drop (i * P.cellsOf e)).take (P.cellsOf e))
    | _ => True

theorem mapM_all {α β : Type} {g : α → Option β} : ∀ {l : List α} {ys : List β}, l.mapM g = some ys → ∀ x ∈ l, ∃ y, g x = some y
  | [], _, _, x, hx => by simp at hx
  | a :: l, ys, h, x, hx => by
    rw [List.mapM_cons] at h
    simp only [bind, Option.bind_eq_some_iff, pure, Option.some.injEq] at h
    obtain ⟨y, h1, ys', h2, _⟩ := h
    rcases List.mem_cons.1 hx with rfl | hx
    · exact ⟨y, h1⟩
    · exact mapM_all h2 x hx

theorem rds_of {H : Type} {enc : TypeId × Value → H} {P : Program} {W : World} {sp : Nat → Bool} : ∀ (fuel : Nat) (t : TypeId) (cs : List Value) (x : DataW H × List MemPlace), DataW.trod enc P W 0 sp true fuel t cs = some x → Rds P W fuel t cs
  | 0, _, _, _, h => by simp [DataW.trod] at h
  | f + 1, t, cs, x, h => by
    have ih := rds_of (H := H) (enc := enc) (P := P) (W := W) (sp := sp) f
    unfold Rds
    cases hu : P.underlying t with
    | none => trivial
    | some k =>
      cases k with
      | bool =>
        match cs with
        | [] => simp [DataW.trod, hu] at h
        | [v] => cases v <;> simp [DataW.trod, hu] at h ⊢
        | v :: u :: cs => cases v <;> simp [DataW.trod, hu] at h
      | int k =>
        match cs with
        | [] => simp [DataW.trod, hu] at h
        | [v] =>
          cases v <;> simp [DataW.trod, hu] at h
          exact ⟨_, by rw [h.1.1], by simpa [Lit.wf] using h.1.2⟩
        | v :: u :: cs => cases v <;> simp [DataW.trod, hu] at h
      | string =>
        match cs with
        | [] => simp [DataW.trod, hu] at h
        | [v] =>
          cases v <;> simp [DataW.trod, hu] at h ⊢
          exact h.1
        | v :: u :: cs => cases v <;> simp [DataW.trod, hu] at h
      | slice e =>
        rcases DataW.trod_slice hu h with h0 | ⟨a, len, cap, elems, rest, n, hn, rfl, _, hb, hl, hm, hlen, hel, _, _⟩
        · exact .inl h0.1
        · refine .inr ⟨a, len, cap, rfl, hl, hm, fun i hi => ?_⟩
          have hi' : elems[i]? = some (elems[i]'(by omega)) := List.getElem?_eq_getElem _
          have h1 := hel i hi
          rw [hi', Option.bind_eq_some_iff] at h1
          obtain ⟨ys, hys, hy⟩ := h1
          obtain ⟨_, hl2, hcell⟩ := World.cells?_some hys
          have hfn : f = n := by omega
          subst hfn
          exact ⟨ys, hl2, hcell, ih e ys _ hy⟩
      | struct fs =>
        have h2 : cs.length = P.cellsOf t ∧ ∃ xs, fs.toList.mapM (fun f' => DataW.trod enc P W 0 sp true f f'.type ((cs.drop f'.offset).take (P.cellsOf f'.type))) = some xs := by
          unfold DataW.trod at h
          simp only [hu] at h
          split at h
          · rename_i hl
            refine ⟨hl, ?_⟩
            rw [Option.map_eq_some_iff] at h
            obtain ⟨xs, h, _⟩ := h
            exact ⟨xs, h⟩
          · cases h
        obtain ⟨hl, xs, hxs⟩ := h2
        exact ⟨hl, fun y hy => by obtain ⟨z, hz⟩ := mapM_all hxs y hy; exact ih _ _ _ hz⟩
      | array n e =>
        have h2 : cs.length = P.cellsOf t ∧ ∃ xs, (List.range n).mapM (fun i => DataW.trod enc P W 0 sp true f e ((cs.drop (i * P.cellsOf e)).take (P.cellsOf e))) = some xs := by
          unfold DataW.trod at h
          simp only [hu] at h
          split at h
          · rename_i hl
            refine ⟨hl, ?_⟩
            rw [Option.map_eq_some_iff] at h
            obtain ⟨xs, h, _⟩ := h
            exact ⟨xs, h⟩
          · cases h
        obtain ⟨hl, xs, hxs⟩ := h2
        exact ⟨hl, fun i hi => by obtain ⟨z, hz⟩ := mapM_all hxs i (List.mem_range.2 hi); exact ih _ _ _ hz⟩
      | _ => trivial

end Go.Gv
end
section
/- What came in: numbers, bytes, truths in a row; maps. -/
namespace Go.Gv
open Go Go.RowKit
set_option linter.unusedVariables false
set_option linter.unusedSimpArgs false

theorem rds_int {P : Program} {W : World} {f : Nat} {t : TypeId} {k : IntKind} (hu : P.underlying t = some (.int k)) {cs : List Value} (h : Rds P W f t cs) : ∃ n, cs = [.int k n] ∧ k.min ≤ n ∧ n ≤ k.max := by
  cases f with
  | zero => exact h.elim
  | succ f => unfold Rds at h; simpa only [hu] using h
end Go.Gv
end
section
/- Arrays of two numbers that came in. -/
namespace Go.Proofs.Ytckdlfbbkemklaa
open Go Go.RowKit Go.Gv
set_option linter.unusedVariables false

theorem list2 {α : Type} {l : List α} (h : l.length = 2) : ∃ x y, l = [x, y] := by
  match l, h with
  | [x, y], _ => exact ⟨x, y, rfl⟩
theorem int_one {P : Program} {W : World} {f : Nat} {t : TypeId} {k : IntKind} {v : Value} (h1 : P.underlying t = some (.int k)) (r : Rds P W f t [v]) : ∃ n : Int, v = .int k n ∧ k.min ≤ n ∧ n ≤ k.max := by
  obtain ⟨n, e, k1, k2⟩ := rds_int h1 r
  simp only [List.cons.injEq, and_true] at e
  exact ⟨n, e, k1, k2⟩
theorem rds_two {P : Program} {W : World} {t e : TypeId} {k : IntKind} (hu : P.underlying t = some (.array 2 e)) (he : P.underlying e = some (.int k)) (hs : P.cellsOf e = 1) (ht : P.cellsOf t = 2) {cs : List Value} (h : ∃ f, Rds P W f t cs) :
    ∃ a b : Int, cs = [.int k a, .int k b] ∧ (k.min ≤ a ∧ a ≤ k.max) ∧ k.min ≤ b ∧ b ≤ k.max := by
  obtain ⟨f, h⟩ := h
  cases f with
  | zero => exact h.elim
  | succ f =>
    unfold Rds at h
    simp only [hu, hs, ht] at h
    obtain ⟨hl, h⟩ := h
    obtain ⟨x, y, rfl⟩ := list2 hl
    obtain ⟨a, rfl, ha⟩ := int_one he (h 0 (by omega))
    obtain ⟨b, rfl, hb⟩ := int_one he (h 1 (by omega))
    exact ⟨a, b, rfl, ha, hb⟩
theorem rds_span0 {W : World} {cs : List Value} (h : ∃ f, Rds Try.prog W f 105 cs) : ∃ a b : Int, cs = [.int .i64 a, .int .i64 b] := by
  have c1 : Try.prog.cellsOf 3 = 1 := by kernel_rfl
  have c2 : Try.prog.cellsOf 105 = 2 := by kernel_rfl
  obtain ⟨a, b, e, _⟩ := rds_two Try.underlying105 Try.underlying3 c1 c2 h
  exact ⟨a, b, e⟩
theorem rds_span1 {W : World} {cs : List Value} (h : ∃ f, Rds Try.prog W f 106 cs) : ∃ a b : Int, cs = [.int .i64 a, .int .i64 b] := by
  have c1 : Try.prog.cellsOf 2 = 1 := by kernel_rfl
  have c2 : Try.prog.cellsOf 106 = 2 := by kernel_rfl
  obtain ⟨a, b, e, _⟩ := rds_two Try.underlying106 Try.underlying2 c1 c2 h
  exact ⟨a, b, e⟩
end Go.Proofs.Ytckdlfbbkemklaa
end
