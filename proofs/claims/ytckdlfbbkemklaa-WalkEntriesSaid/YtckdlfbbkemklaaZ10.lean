/- Texts of this claim, put together: EntWalk. -/
import Derived.Test.YtckdlfbbkemklaaZ09
/- walk: of all trees the entries are told: the walk. -/
namespace Go.Proofs.Ytckdlfbbkemklaa
open Go Go.RowKit Go.Gv
set_option linter.unusedVariables false
set_option linter.unusedSimpArgs false

set_option maxHeartbeats 16000000 in
theorem walkEntries_walk (w : World) (n st mo : Int) : Calls Try.prog 8 #[.int .i64 n, .int .i64 st, .int .i64 mo] w (Ret (LawR w)) := by
  refine Calls.enterM Try.func8 rfl rfl rfl (St.rebase w) ?_
  simp only [argSlots]
  obtain ⟨k, hk⟩ : ∃ k : Nat, (k : Int) = n % 18446744073709551616 % 150 := ⟨(n % 18446744073709551616 % 150).toNat, by omega⟩
  obtain ⟨s, hs⟩ : ∃ s : Nat, (s : Int) = st % 18446744073709551616 % 9 := ⟨(st % 18446744073709551616 % 9).toNat, by omega⟩
  have hB := v200_built k s (by omega) (by omega)
  have hV := levs_of (l := bL s k) (bL_ok (by omega) (by omega)) (by rw [bL_length]; omega)
  have hbd := law14_build k s (by omega) (by omega)
  have hlk := bL_length s k
  have hser := serF_bL s k
  rw [hlk] at hV
  generalize loadN v200 (bL s k) = R at hB hbd hV
  have hbe : decide (R.2.2 = 0) = true := decide_eq_true hB.e
  simp only [hbe] at hbd
  (refine TriR.seq (TriR.region ?_); apply TriR.op; rfl; rfl)
  (apply o_alloc; (case hn => rfl); intro b6)
  (refine TriR.nil (Tri.thenN (TriR.seq (TriR.region ?_))); apply TriR.op; rfl; rfl; apply o_move; rfl; rfl; apply TriR.op; rfl; rfl; apply o_conv64; rfl; rfl; apply TriR.op; rfl; rfl; apply o_rem; rfl; rfl; rfl; (omega); (omega); apply TriR.op; rfl; rfl; apply o_convI; rfl; rfl; (first | decide | (exact wrap_i64 (by omega)) | (exact wrap_u8 (by omega)) | (exact wrap_u16 (by omega)) | (exact wrap_u32 (by omega)) | (exact wrap_u64 (by omega))); apply TriR.op; rfl; rfl; apply o_move; rfl; rfl; apply TriR.op; rfl; rfl; apply o_conv64; rfl; rfl; apply TriR.op; rfl; rfl; apply o_rem; rfl; rfl; rfl; (omega); (omega); apply TriR.op; rfl; rfl; apply o_convI; rfl; rfl; (first | decide | (exact wrap_i64 (by omega)) | (exact wrap_u8 (by omega)) | (exact wrap_u16 (by omega)) | (exact wrap_u32 (by omega)) | (exact wrap_u64 (by omega))); apply TriR.op; rfl; rfl; apply o_assign; rfl; rfl; apply TriR.op; rfl; rfl; apply o_assign; rfl; rfl; refine TriR.nil (Tri.thenN (TriR.seq (TriR.seq (TriR.region ?_)))); apply TriR.op; rfl; rfl)
  ((with_reducible apply Tri.seti 7 ((k : Int))); (case h => rfl); (case hi => omega))
  ((with_reducible apply Tri.seti 8 ((s : Int))); (case h => rfl); (case hi => omega))
  skip
  (apply o_callV (hs := law14_walks); (case hargs => (repeat first | exact evs.nil | (apply evs.cons; case a => rfl))); (case hpre => exact fun _ _ => trivial); (case hn => rfl))
  (apply TriR.op; rfl; rfl; apply o_not; rfl; rfl; refine TriR.nil (Tri.thenN ?_))
  ((with_reducible apply Tri.setb 33 (false)); (case h => rfl); (case hi => rfl))
  (apply TriR.condF; rfl; rfl; refine TriR.skip (Tri.thenN (TriR.seq (TriR.region ?_))); apply TriR.op; rfl; rfl; apply o_move; rfl; rfl; apply TriR.op; rfl; rfl; apply o_move; rfl; rfl; apply TriR.op; rfl; rfl)
  (apply o_callR (hs := hbd); (case hargs => (repeat first | exact evs.nil | (apply evs.cons; case a => rfl))); (case hpre => exact fun _ _ => trivial); (case hn => rfl))
  rintro r1 H1 ⟨pv, d, A, c, rfl, rfl⟩
  (try dsimp only [List.cons_append, List.nil_append])
  (apply TriR.op; rfl; rfl; apply o_move; rfl; rfl; apply TriR.op; rfl; rfl; apply o_extract; rfl; rfl; rfl; apply TriR.op; rfl; rfl; apply o_extract; rfl; rfl; rfl; apply TriR.op; rfl; rfl; apply o_extract; rfl; rfl; rfl; apply TriR.op; rfl; rfl; apply o_extract; rfl; rfl; rfl; apply TriR.op; rfl; rfl)
  (apply o_alloc; (case hn => rfl); intro b10)
  (apply TriR.op; rfl; rfl)
  (apply o_alloc; (case hn => rfl); intro b11)
  (apply TriR.op; rfl; rfl; apply o_assign; rfl; rfl; apply TriR.op; rfl; rfl)
  (apply o_storeAll (ys := rootL R.2.1.1 (R.2.1.2 : Int)); (case hx => rfl); (case hy => rfl); (case p => (with_reducible repeat constructor)); (case hl => rfl); (case hc => rfl); (case h1 => exact two_int _ _))
  (apply TriR.op; rfl; rfl)
  (apply o_store; (case hx => rfl); (case hy => rfl); (case h1 => rfl); (case p => (with_reducible repeat constructor)); (case hi => exact (by decide : 0 < 1)))
  ((with_reducible apply Tri.eqA (A := blk b11 _ _) (B := blk b11 22 [.slice A k c])); (case p => (with_reducible repeat constructor)); (case e => rfl))
  (apply TriR.op; rfl; rfl; apply o_assign; rfl; rfl; refine TriR.nil (Tri.thenN (TriR.seq (TriR.seq (TriR.region ?_)))); apply TriR.op; rfl; rfl; apply o_move; rfl; rfl; apply TriR.op; rfl; rfl; apply o_not; rfl; rfl; refine TriR.nil (Tri.thenN ?_))
  ((with_reducible apply Tri.setb 43 (false)); (case h => rfl); (case hi => rfl))
  (apply TriR.condF; rfl; rfl; refine TriR.skip (Tri.thenN ?_))
  (first | with_reducible refine Tri.seq ?_ | with_reducible refine TriR.seq ?_)
  (refine TriR.region ?_; apply TriR.op; rfl; rfl; apply o_move; rfl; rfl; apply TriR.op; rfl; rfl; apply o_assign; rfl; rfl; refine TriR.nil (Tri.thenN ?_))
  obtain ⟨mm, hmm⟩ : ∃ mm : Int, mm = if mo > 200 then mo % 200 else mo := ⟨_, rfl⟩
  (apply TriR.seqMeet (α := Unit) (Lx := fun _ => [(6, .pointer (some ⟨b6, 0, none⟩)), (7, .int .i64 (k : Int)), (9, .pointer (some ⟨pv, 0, none⟩)), (10, .pointer (some ⟨b10, 0, none⟩)), (11, .pointer (some ⟨b11, 0, none⟩)), (13, .int .i64 mm)]) (Hx := fun _ => [blk b11 22 [.slice A k c], blk b10 48 (rootL R.2.1.1 (R.2.1.2 : Int)), blk pv 194 (viewL d R.1), DSK d R.1.S, own 103 8 (.slice A k c) k (EL (bL s k)), blk b6 4 [.bool false], Ex (hp w)]); rotate_left; (rintro ⟨⟩; (try dsimp only)); rotate_left)
  · (refine TriR.seq (TriR.region ?_); apply TriR.op; rfl; rfl; apply o_move; rfl; rfl; apply TriR.op; rfl; rfl; apply o_gtr; rfl; rfl; rfl; refine TriR.nil (Tri.thenN ?_))
    by_cases hm : mo > 200
    · have e : mm = mo % 200 := by rw [hmm, if_pos hm]
      ((with_reducible apply Tri.setb 46 (true)); (case h => rfl); (case hi => exact decide_eq_true hm))
      (apply TriR.condT; rfl; rfl; refine TriR.region ?_; apply TriR.op; rfl; rfl; apply o_move; rfl; rfl; apply TriR.op; rfl; rfl; apply o_rem; rfl; rfl; rfl; (omega); (omega); apply TriR.op; rfl; rfl; apply o_assign; rfl; rfl; refine TriR.nil (Tri.thenN ?_))
      ((with_reducible apply Tri.seti 13 (mm)); (case h => rfl); (case hi => (rw [e])))
      (apply Tri.reach (y := ()); (case hL => ((try dsimp only); (repeat (first | exact trivial | refine And.intro (by rfl) ?_)))); (case p => ((try dsimp only); (repeat (first | exact Pulls.nil | (apply Pulls.cons; (case a => (first | ((repeat (first | with_reducible exact Gv.Pull.head | with_reducible apply Gv.Pull.tail)); done) | (repeat (first | exact Gv.Pull.head | apply Gv.Pull.tail))))))))))
    · have e : mm = mo := by rw [hmm, if_neg hm]
      ((with_reducible apply Tri.setb 46 (false)); (case h => rfl); (case hi => exact decide_eq_false hm))
      (apply TriR.condF; rfl; rfl; refine TriR.skip (Tri.thenN ?_))
      ((with_reducible apply Tri.seti 13 (mm)); (case h => rfl); (case hi => (rw [e])))
      (apply Tri.reach (y := ()); (case hL => ((try dsimp only); (repeat (first | exact trivial | refine And.intro (by rfl) ?_)))); (case p => ((try dsimp only); (repeat (first | exact Pulls.nil | (apply Pulls.cons; (case a => (first | ((repeat (first | with_reducible exact Gv.Pull.head | with_reducible apply Gv.Pull.tail)); done) | (repeat (first | exact Gv.Pull.head | apply Gv.Pull.tail))))))))))
  have hmm2 : mm ≤ 200 := by rw [hmm]; split <;> omega
  have hT := walk_Take pv d R.1 hB.ok hB.wt R.2.1.2 R.2.1.1 hB.h5 hB.g hB.C mm (by rw [hB.E, hlk]; omega)
  rw [hB.E, hB.tk, hlk, bL_cut, bL_length, nodes_eq] at hT
  obtain ⟨np, hnp⟩ : ∃ np, np = min mm.toNat k := ⟨_, rfl⟩
  rw [← hnp] at hT
  have hN := ref14_Nodes (R.2.1.2 - 1) k np (by omega) (by omega) hV.h4 hV.last hV.big
  obtain ⟨NN, hNN⟩ : ∃ NN, NN = if k = 0 ∨ np = 0 then 0 else visF (R.2.1.2 - 1) (np - 1) := ⟨_, rfl⟩
  rw [← hNN] at hT hN
  have hS := walk_Series pv d R.1 hB.ok hB.wt R.2.1.2 R.2.1.1 hB.h5 hB.g hB.C (by rw [hB.E, hlk]; omega)
  rw [hB.E, hser] at hS
  (refine TriR.seq (TriR.region ?_); apply TriR.op; rfl; rfl; apply o_move; rfl; rfl; apply TriR.op; rfl; rfl)
  (apply o_loadAll (cs := rootL R.2.1.1 (R.2.1.2 : Int)); (case hx => rfl); (case p => exact (by (with_reducible repeat constructor))); (case hl => rfl); (case hn => rfl))
  (apply TriR.op; rfl; rfl; apply o_move; rfl; rfl; apply TriR.op; rfl; rfl)
  (apply o_callS (hs := hT); (case hargs => (repeat first | exact evs.nil | (apply evs.cons; case a => rfl))); (case p => (repeat first | with_reducible constructor | constructor)); (case hn => rfl))
  rintro r2 H2 ⟨A2, c2, rfl, rfl⟩
  (try dsimp only [List.cons_append, List.nil_append])
  (apply TriR.op; rfl; rfl; apply o_move; rfl; rfl; apply TriR.op; rfl; rfl; apply o_extract; rfl; rfl; rfl; apply TriR.op; rfl; rfl; apply o_extract; rfl; rfl; rfl; apply TriR.op; rfl; rfl; apply o_extract; rfl; rfl; rfl; apply TriR.op; rfl; rfl; apply o_assign; rfl; rfl; apply TriR.op; rfl; rfl; apply o_assign; rfl; rfl; apply TriR.op; rfl; rfl; apply o_assign; rfl; rfl; refine TriR.nil (Tri.thenN (TriR.seq (TriR.region ?_))); apply TriR.op; rfl; rfl; apply o_load; rfl; (with_reducible repeat constructor); rfl; rfl; apply TriR.op; rfl; rfl; apply o_move; rfl; rfl; apply TriR.op; rfl; rfl; apply o_max; rfl; rfl; rfl; apply TriR.op; rfl; rfl; apply o_load; rfl; (with_reducible repeat constructor); rfl; rfl; apply TriR.op; rfl; rfl; apply o_len; rfl; rfl; apply TriR.op; rfl; rfl; apply o_min; rfl; rfl; rfl; apply TriR.op; rfl; rfl)
  ((with_reducible apply Tri.seti 62 ((np : Int))); (case h => rfl); (case hi => omega))
  skip
  (apply o_slice (lo := 0) (hi := np) (m := k) (xs := EL (bL s k)); (case hx => rfl); (case hr => exact rdw_own (v := .slice A k c) (by (with_reducible repeat constructor))); (case hol => first | exact fun _ _ => rfl | exact fun a ha => congrArg some (ha.eval rfl)); (case hoh => first | exact fun _ _ => rfl | exact fun a ha => congrArg some (ha.eval rfl)); (case hlo => first | exact .inr ⟨rfl, rfl⟩ | exact .inl ⟨_, rfl⟩ | exact .inl ⟨_, (by congr 2; omega)⟩); (case hhi => first | exact .inr ⟨rfl, rfl⟩ | exact .inl ⟨_, rfl⟩ | exact .inl ⟨_, (by congr 2; omega)⟩); (case hlh => omega); (case hhm => omega); (case hn => rfl))
  (apply TriR.op; rfl; rfl; apply o_assign; rfl; rfl; refine TriR.nil (Tri.thenN (TriR.seq (TriR.seq (TriR.region ?_)))); apply TriR.op; rfl; rfl; apply o_move; rfl; rfl; apply TriR.op; rfl; rfl; apply o_neq; rfl; rfl; rfl; apply TriR.op; rfl; rfl; apply o_move; rfl; rfl)
  ((with_reducible apply Tri.setb 66 (false)); (case h => rfl); (case hi => rfl))
  (apply TriR.opYes; (iterate 4 rfl); apply o_move; rfl; rfl; apply TriR.opYes; (iterate 4 rfl))
  (apply o_callR (hs := back_of (.slice A2 np c2) s np (by omega)); (case hargs => (repeat first | exact evs.nil | (apply evs.cons; case a => rfl))); (case hpre => exact rdw_own (v := .slice A2 np c2) (by (with_reducible repeat constructor))); (case hn => rfl))
  rintro r5 H5 ⟨A5, c5, rfl, rfl⟩
  (try dsimp only [List.cons_append, List.nil_append])
  (apply TriR.opYes; (iterate 4 rfl); apply o_move; rfl; rfl; apply TriR.opYes; (iterate 4 rfl))
  have hnk : np ≤ k := by omega
  (apply o_callV (hs := same_of (.slice A5 np c5) (subv (.slice A k c) 8 0 np) s np (by omega)); (case hargs => (repeat first | exact evs.nil | (apply evs.cons; case a => rfl))); (case hpre => exact fun w' hw' => ⟨rdw_own (v := .slice A5 np c5) (by (with_reducible repeat constructor)) w' hw', cut_of (rdw_own (v := .slice A k c) (by (with_reducible repeat constructor)) w' hw') hnk⟩); (case hn => rfl))
  (apply TriR.opYes; (iterate 4 rfl); apply o_not; rfl; rfl; apply TriR.op; rfl; rfl; apply o_pickF; (iterate 4 rfl); apply TriR.op; rfl; rfl; apply o_move; rfl; rfl)
  ((with_reducible apply Tri.setb 73 (false)); (case h => rfl); (case hi => rfl))
  (apply TriR.opYes; (iterate 4 rfl); apply o_move; rfl; rfl; apply TriR.opYes; (iterate 4 rfl); apply o_load; rfl; (with_reducible repeat constructor); rfl; rfl; apply TriR.opYes; (iterate 4 rfl); apply o_len; rfl; rfl; apply TriR.opYes; (iterate 4 rfl); apply o_move; rfl; rfl; apply TriR.opYes; (iterate 4 rfl); apply o_len; rfl; rfl; apply TriR.opYes; (iterate 4 rfl))
  (apply o_callV (hs := hN); (case hargs => (repeat first | exact evs.nil | (apply evs.cons; case a => rfl))); (case hpre => exact fun _ _ => trivial); (case hn => rfl))
  (apply TriR.opYes; (iterate 4 rfl); apply o_neq; rfl; rfl; rfl; apply TriR.op; rfl; rfl; apply o_pickF; (iterate 4 rfl); refine TriR.nil (Tri.thenN ?_))
  ((with_reducible apply Tri.setb 81 (false)); (case h => rfl); (case hi => exact decide_eq_false (fun q => q rfl)))
  (apply TriR.condF; rfl; rfl; refine TriR.skip (Tri.thenN (TriR.seq (TriR.region ?_))); apply TriR.op; rfl; rfl; apply o_move; rfl; rfl; apply TriR.op; rfl; rfl)
  (apply o_loadAll (cs := rootL R.2.1.1 (R.2.1.2 : Int)); (case hx => rfl); (case p => exact (by (with_reducible repeat constructor))); (case hl => rfl); (case hn => rfl))
  (apply TriR.op; rfl; rfl)
  (apply o_callS (hs := hS); (case hargs => (repeat first | exact evs.nil | (apply evs.cons; case a => rfl))); (case p => (repeat first | with_reducible constructor | constructor)); (case hn => rfl))
  rintro r6 H6 ⟨A6, c6, rfl, rfl⟩
  (try dsimp only [List.cons_append, List.nil_append])
  (apply TriR.op; rfl; rfl; apply o_move; rfl; rfl; apply TriR.op; rfl; rfl; apply o_extract; rfl; rfl; rfl; apply TriR.op; rfl; rfl; apply o_extract; rfl; rfl; rfl; apply TriR.op; rfl; rfl; apply o_assign; rfl; rfl; apply TriR.op; rfl; rfl; apply o_assign; rfl; rfl; refine TriR.nil (Tri.thenN (TriR.seq (TriR.seq (TriR.region ?_)))); apply TriR.op; rfl; rfl; apply o_move; rfl; rfl; apply TriR.op; rfl; rfl; apply o_neq; rfl; rfl; rfl; apply TriR.op; rfl; rfl; apply o_move; rfl; rfl)
  ((with_reducible apply Tri.setb 90 (false)); (case h => rfl); (case hi => rfl))
  (apply TriR.opYes; (iterate 4 rfl); apply o_move; rfl; rfl; apply TriR.opYes; (iterate 4 rfl); apply o_len; rfl; rfl; apply TriR.opYes; (iterate 4 rfl); apply o_move; rfl; rfl; apply TriR.opYes; (iterate 4 rfl); apply o_add64; rfl; rfl; rfl; (omega); apply TriR.opYes; (iterate 4 rfl); apply o_quo; rfl; rfl; rfl; (omega); (omega); apply TriR.opYes; (iterate 4 rfl); apply o_neq; rfl; rfl; rfl; apply TriR.op; rfl; rfl; apply o_pickF; (iterate 4 rfl); refine TriR.nil (Tri.thenN ?_))
  have hsl := serL_length k
  have hsg : ∀ i, i < (serL k).length → (serL k)[i]? = some (i : Int) := fun i hi => serL_get (by rw [← hsl]; exact hi)
  generalize serL k = SL at hsl hsg
  ((with_reducible apply Tri.seti 95 ((((k + 29) / 30 : Nat) : Int))); (case h => rfl); (case hi => omega))
  skip
  ((with_reducible apply Tri.setb 97 (false)); (case h => rfl); (case hi => exact decide_eq_false (by omega)))
  (apply TriR.condF; rfl; rfl; refine TriR.skip (Tri.thenN (TriR.seq (TriR.seq (TriR.region ?_)))); apply TriR.op; rfl; rfl; apply o_assign; rfl; rfl; refine TriR.nil (Tri.thenN (TriR.block ?_)))
  (apply TriR.loop (α := { i : Nat // i ≤ SL.length }) (m := fun x => SL.length - x.1) (Lx := fun x => [(6, .pointer (some ⟨b6, 0, none⟩)), (9, .pointer (some ⟨pv, 0, none⟩)), (10, .pointer (some ⟨b10, 0, none⟩)), (11, .pointer (some ⟨b11, 0, none⟩)), (18, .slice A6 SL.length c6), (20, .int .i64 (x.1 : Int))]) (Hx := fun x => [own 3 1 (.slice A6 SL.length c6) SL.length (NL SL), blk pv 194 (viewL d R.1), DSK d R.1.S, blk b11 22 [.slice A k c], blk b10 48 (rootL R.2.1.1 (R.2.1.2 : Int)), own 103 8 (.slice A k c) k (EL (bL s k)), blk b6 4 [.bool false], Ex (hp w)]) (x0 := ⟨0, Nat.zero_le _⟩); (case hL => ((try dsimp only); (repeat (first | exact trivial | refine And.intro (by rfl) ?_)))); (case hH => ((try dsimp only); apply St.all; (repeat first | with_reducible constructor | constructor)))); (rintro ⟨i, hi⟩ mx hmx; (try dsimp only at hmx ⊢))
  (refine TriR.seq (TriR.seq (TriR.region ?_)); apply TriR.op; rfl; rfl; apply o_move; rfl; rfl; apply TriR.op; rfl; rfl; apply o_move; rfl; rfl; apply TriR.op; rfl; rfl; apply o_len; rfl; rfl; apply TriR.op; rfl; rfl; apply o_lss; rfl; rfl; rfl; refine TriR.nil (Tri.thenN ?_))
  (apply TriR.condD; (case hc => rfl); (all_goals intro hc))
  · have hil : i < SL.length := by omega
    have hil' : i + 1 ≤ SL.length := hil
    have hNi : (NL SL)[i]? = some (.int .i64 (i : Int)) := by rw [NL, List.getElem?_map, hsg i hil]; rfl
    (refine TriR.skip (Tri.thenN (TriR.seq (TriR.block (TriR.seq (TriR.region ?_))))); apply TriR.op; rfl; rfl; apply o_move; rfl; rfl; apply TriR.op; rfl; rfl; apply o_move; rfl; rfl; apply TriR.op; rfl; rfl)
    (apply o_ixOwn (j := i); (case hx => rfl); (case hy => rfl); (case p => (with_reducible repeat constructor)); (case hj => rfl); (case hlt => exact hil); (case hn => rfl))
    (apply TriR.op; rfl; rfl)
    (apply o_loadOwn (j := i * 1); (case hx => rfl); (case p => (with_reducible repeat constructor)); (case hv => exact (by rw [Nat.mul_one]; exact hNi)); (case hn => rfl))
    (apply TriR.op; rfl; rfl; apply o_move; rfl; rfl; apply TriR.op; rfl; rfl; apply o_neq; rfl; rfl; rfl; refine TriR.nil (Tri.thenN ?_))
    ((with_reducible apply Tri.setb 109 (false)); (case h => rfl); (case hi => exact decide_eq_false (fun q => q rfl)))
    (apply TriR.condF; rfl; rfl; refine TriR.skip (Tri.blockN (Tri.thenN (TriR.region ?_))); apply TriR.op; rfl; rfl; apply o_move; rfl; rfl; apply TriR.op; rfl; rfl; apply o_add64; rfl; rfl; rfl; (omega); apply TriR.op; rfl; rfl; apply o_assign; rfl; rfl; refine TriR.nil (Tri.thenN ?_))
    ((with_reducible apply Tri.seti 20 (((i + 1 : Nat) : Int))); (case h => rfl); (case hi => omega))
    (apply Tri.again (y := ⟨i + 1, hil'⟩); (case p => ((try dsimp only); (repeat (first | exact Pulls.nil | (apply Pulls.cons; (case a => (first | ((repeat (first | with_reducible exact Gv.Pull.head | with_reducible apply Gv.Pull.tail)); done) | (repeat (first | exact Gv.Pull.head | apply Gv.Pull.tail))))))))); (case hm => ((try dsimp only); omega)); (try dsimp only))
    (repeat (first | exact trivial | refine And.intro (by rfl) ?_))
  · ((with_reducible refine TriR.exit (Tri.thenE (Tri.thenE (Tri.blockE (Tri.thenN (TriR.seq (TriR.region ?_))))))); apply TriR.op; rfl; rfl)
    (apply o_alloc; (case hn => rfl); intro b21)
    (apply TriR.op; rfl; rfl)
    (apply o_store; (case hx => rfl); (case hy => rfl); (case h1 => rfl); (case p => (with_reducible repeat constructor)); (case hi => exact (by decide : 0 < 1)))
    ((with_reducible apply Tri.eqA (A := blk b21 _ _) (B := blk b21 3 [.int .i64 ((0 : Nat) : Int)])); (case p => (with_reducible repeat constructor)); (case e => rfl))
    (refine TriR.nil (Tri.thenN (TriR.seq (TriR.seq (TriR.region ?_)))); apply TriR.op; rfl; rfl; apply o_move; rfl; rfl; apply TriR.op; rfl; rfl)
    (apply o_loadAll (cs := rootL R.2.1.1 (R.2.1.2 : Int)); (case hx => rfl); (case p => exact (by (with_reducible repeat constructor))); (case hl => rfl); (case hn => rfl))
    (apply TriR.op; rfl; rfl)
    (apply o_callR (hs := walk_Entries (some pv) R.2.1.1 (R.2.1.2 : Int)); (case hargs => (repeat first | exact evs.nil | (apply evs.cons; case a => rfl))); (case hpre => exact fun _ _ => trivial); (case hn => rfl))
    rintro r7 H7 ⟨pw, b2, b8, rfl, rfl⟩
    (try dsimp only [List.cons_append, List.nil_append])
    (refine TriR.nil (Tri.thenN (TriR.block ?_)))
    have hit := entries_iter pw pv d b2 b8 R.1 hB.ok hB.wt R.2.1.2 R.2.1.1 hB.h5 hB.g 0 (by have := hB.C; omega)
    simp only [walkC] at hit
    rw [hB.E] at hit
    generalize wkC R.1.S R.2.1.2 R.2.1.1 = CC at hit ⊢
    generalize wkV R.1.S R.2.1.2 R.2.1.1 = VV at hit ⊢
    refine TriR.rangeS (α := { i : Nat // i ≤ k }) (β := Empty) (γ := Nat) (fun x => x.1) (fun y => y.elim)
      (fun x => [blk b21 3 [.int .i64 (x.1 : Int)], blk b11 22 [.slice A k c], own 103 8 (.slice A k c) k (EL (bL s k))]) ⟨0, Nat.zero_le _⟩ (fun _ => .ret)
      (fun x => [])
      (fun x z => [(11, .pointer (some ⟨b11, 0, none⟩)), (21, .pointer (some ⟨b21, 0, none⟩)), (22, .pointer (some ⟨z, 0, none⟩)), (23, .int .i64 0)])
      (fun x z => blk z 100 (entL ((bL s k).getD x.1 ent0)) :: [blk b21 3 [.int .i64 (x.1 : Int)], blk b11 22 [.slice A k c], own 103 8 (.slice A k c) k (EL (bL s k))])
      hit rfl rfl (by (repeat (first | exact Pulls.nil | (apply Pulls.cons; (case a => (first | ((repeat (first | with_reducible exact Gv.Pull.head | with_reducible apply Gv.Pull.tail)); done) | (repeat (first | exact Gv.Pull.head | apply Gv.Pull.tail)))))))) ?_ ?_ ?_ ?_ ?_ ?_
    · intro y hy
      obtain ⟨k, _, rfl⟩ := List.mem_map.1 hy
      rfl
    · intro q hq
      simp at hq
      rcases hq with rfl | rfl <;> rfl
    · intro lp x vs hvs hq
      obtain ⟨e, he, rfl⟩ := rowsW_of hvs
      have hed : (bL s k).getD x.1 ent0 = e := by rw [List.getD_eq_getElem?_getD, he]; rfl
      rw [hed]
      simp only [zipL]
      (try dsimp only [List.cons_append, List.nil_append])
      (refine TriR.seq (TriR.region ?_); apply TriR.op; rfl; rfl)
      (apply o_alloc; (case hn => rfl); intro b30)
      (apply TriR.op; rfl; rfl)
      (apply o_storeAll (ys := entL e); (case hx => rfl); (case hy => rfl); (case p => (with_reducible repeat constructor)); (case hl => rfl); (case hc => rfl); (case h1 => exact entL_one5 e))
      (refine TriR.nil (Tri.thenN (TriR.region ?_)); apply TriR.op; rfl; rfl; apply o_assign; rfl; rfl; refine TriR.nil (Tri.thenN ?_))
      (apply Tri.reach (y := b30); (case hL => ((try dsimp only); (repeat (first | exact trivial | refine And.intro (by rfl) ?_)))); (case p => ((try dsimp only); (repeat (first | exact Pulls.nil | (apply Pulls.cons; (case a => (first | ((repeat (first | with_reducible exact Gv.Pull.head | with_reducible apply Gv.Pull.tail)); done) | (repeat (first | exact Gv.Pull.head | apply Gv.Pull.tail))))))))))
    · rintro lp ⟨i, hi⟩ vs hvs b30 hq
      obtain ⟨e, he, rfl⟩ := rowsW_of hvs
      (try dsimp only at he)
      have hed : (bL s k).getD i ent0 = e := by rw [List.getD_eq_getElem?_getD, he]; rfl
      have hil : i < k := by have := (List.getElem?_eq_some_iff.1 he).1; rw [hlk] at this; exact this
      have hil' : i + 1 ≤ k := hil
      have h8 := EL_eight (bL s k) i (by rw [hlk]; exact hil)
      (try dsimp only [List.cons_append, List.nil_append])
      rw [hed] at h8 ⊢
      (refine TriR.block (TriR.seq (TriR.seq ?_)))
      ((first | with_reducible apply Tri.mix [blk b30 100 (entL e), blk b21 3 [.int .i64 (i : Int)], blk b11 22 [.slice A k c], own 103 8 (.slice A k c) k (EL (bL s k))] | (apply TriR.mix [blk b30 100 (entL e), blk b21 3 [.int .i64 (i : Int)], blk b11 22 [.slice A k c], own 103 8 (.slice A k c) k (EL (bL s k))]; (case hnd => rfl))); (case p => (repeat first | with_reducible constructor | constructor)); (dsimp only [List.length]))
      ((first | (apply TriM.q 0; rfl; rfl) | (apply TriM.qYes 0; rfl; rfl; rfl; with_reducible rfl)); kernel_rfl; rfl; rfl; (intro F K hK; apply o_move; rfl; rfl; exact hK); (first | (apply TriM.q 1; rfl; rfl) | (apply TriM.qYes 1; rfl; rfl; rfl; with_reducible rfl)); kernel_rfl; rfl; rfl; (intro F K hK; apply o_neq; rfl; rfl; rfl; exact hK); (first | (apply TriM.q 2; rfl; rfl) | (apply TriM.qYes 2; rfl; rfl; rfl; with_reducible rfl)); kernel_rfl; rfl; rfl; (intro F K hK; apply o_move; rfl; rfl; exact hK))
      ((with_reducible apply TriM.setb 117 (false)); (case h => rfl); (case hi => rfl))
      ((first | (apply TriM.q 3; rfl; rfl) | (apply TriM.qYes 3; rfl; rfl; rfl; with_reducible rfl)); kernel_rfl; rfl; rfl; (intro F K hK; (try dsimp only [List.cons_append, List.nil_append]); apply o_load; rfl; (with_reducible repeat constructor); rfl; rfl; exact hK); (first | (apply TriM.q 4; rfl; rfl) | (apply TriM.qYes 4; rfl; rfl; rfl; with_reducible rfl)); kernel_rfl; rfl; rfl; (intro F K hK; (try dsimp only [List.cons_append, List.nil_append]); apply o_load; rfl; (with_reducible repeat constructor); rfl; rfl; exact hK); (first | (apply TriM.q 5; rfl; rfl) | (apply TriM.qYes 5; rfl; rfl; rfl; with_reducible rfl)); kernel_rfl; rfl; rfl; (intro F K hK; apply o_len; rfl; rfl; exact hK); (first | (apply TriM.q 6; rfl; rfl) | (apply TriM.qYes 6; rfl; rfl; rfl; with_reducible rfl)); kernel_rfl; rfl; rfl; (intro F K hK; apply o_geq; rfl; rfl; rfl; exact hK); (first | (apply TriM.q 7; rfl; rfl) | (apply TriM.qYes 7; rfl; rfl; rfl; with_reducible rfl)); kernel_rfl; rfl; rfl; (intro F K hK; apply o_pickF; (iterate 4 rfl); exact hK); (first | (apply TriM.q 8; rfl; rfl) | (apply TriM.qYes 8; rfl; rfl; rfl; with_reducible rfl)); kernel_rfl; rfl; rfl; (intro F K hK; apply o_move; rfl; rfl; exact hK))
      ((with_reducible apply TriM.setb 123 (false)); (case h => rfl); (case hi => exact decide_eq_false (by omega)))
      ((first | (apply TriM.q 9; (case ho => rfl); (case hg => rfl)) | (apply TriM.qYes 9; (case ho => rfl); (case hg => rfl); (case hyl => rfl); (case hb => with_reducible rfl))); (case hB => kernel_rfl); (case hd => rfl); (case hn => rfl); (case h => (intro F K hK; (try dsimp only [List.cons_append, List.nil_append]); (apply o_loadAll (cs := entL e); (case hx => rfl); (case p => exact (by (with_reducible repeat constructor))); (case hl => rfl); (case hn => rfl)); exact hK)))
      ((first | (apply TriM.q 11; rfl; rfl) | (apply TriM.qYes 11; rfl; rfl; rfl; with_reducible rfl)); kernel_rfl; rfl; rfl; (intro F K hK; (try dsimp only [List.cons_append, List.nil_append]); apply o_load; rfl; (with_reducible repeat constructor); rfl; rfl; exact hK); (first | (apply TriM.q 12; rfl; rfl) | (apply TriM.qYes 12; rfl; rfl; rfl; with_reducible rfl)); kernel_rfl; rfl; rfl; (intro F K hK; (try dsimp only [List.cons_append, List.nil_append]); apply o_load; rfl; (with_reducible repeat constructor); rfl; rfl; exact hK))
      ((first | (apply TriM.q 13; (case ho => rfl); (case hg => rfl)) | (apply TriM.qYes 13; (case ho => rfl); (case hg => rfl); (case hyl => rfl); (case hb => with_reducible rfl))); (case hB => kernel_rfl); (case hd => rfl); (case hn => rfl); (case h => (intro F K hK; (try dsimp only [List.cons_append, List.nil_append]); (apply o_ixOwn (j := i); (case hx => rfl); (case hy => rfl); (case p => (with_reducible repeat constructor)); (case hj => rfl); (case hlt => exact hil); (case hn => rfl)); exact hK)))
      ((first | (apply TriM.q 14; (case ho => rfl); (case hg => rfl)) | (apply TriM.qYes 14; (case ho => rfl); (case hg => rfl); (case hyl => rfl); (case hb => with_reducible rfl))); (case hB => kernel_rfl); (case hd => rfl); (case hn => rfl); (case h => (intro F K hK; (try dsimp only [List.cons_append, List.nil_append]); (apply o_loadAggOwn (ys := entL e); (case hx => rfl); (case p => exact (by (with_reducible repeat constructor))); (case hv => exact h8); (case hl => rfl); (case hn => rfl)); exact hK)))
      ((first | (apply TriM.q 10; (case ho => rfl); (case hg => rfl)) | (apply TriM.qYes 10; (case ho => rfl); (case hg => rfl); (case hyl => rfl); (case hb => with_reducible rfl))); (case hB => kernel_rfl); (case hd => rfl); (case hn => rfl); (case h => (intro F K hK; (try dsimp only [List.cons_append, List.nil_append]); apply o_callV (hs := law12_Back e); (case hargs => (repeat first | exact evs.nil | (apply evs.cons; case a => rfl))); (case hpre => exact fun _ _ => trivial); (case hn => rfl); exact hK)))
      ((first | (apply TriM.q 15; (case ho => rfl); (case hg => rfl)) | (apply TriM.qYes 15; (case ho => rfl); (case hg => rfl); (case hyl => rfl); (case hb => with_reducible rfl))); (case hB => kernel_rfl); (case hd => rfl); (case hn => rfl); (case h => (intro F K hK; (try dsimp only [List.cons_append, List.nil_append]); (apply o_neqA (r := true); (case hx => rfl); (case hy => rfl); (case hax => exact ent_alk e); (case hay => exact ent_alk e); (case hr => exact ⟨fun _ => rfl, fun _ => rfl⟩); (case hn => rfl)); exact hK)))
      ((first | (apply TriM.q 16; rfl; rfl) | (apply TriM.qYes 16; rfl; rfl; rfl; with_reducible rfl)); kernel_rfl; rfl; rfl; (intro F K hK; apply o_pickF; (iterate 4 rfl); exact hK))
      (apply TriM.nil; (case hr => kernel_rfl); (try dsimp only [List.cons_append, List.nil_append]))
      (refine Tri.thenN ?_)
      ((with_reducible apply Tri.setb 131 (false)); (case h => rfl); (case hi => rfl))
      (apply TriR.condF; rfl; rfl; refine TriR.skip (Tri.thenN (TriR.region ?_)); apply TriR.op; rfl; rfl; apply o_load; rfl; (with_reducible repeat constructor); rfl; rfl; apply TriR.op; rfl; rfl; apply o_add64; rfl; rfl; rfl; (omega); apply TriR.op; rfl; rfl)
      (apply o_store; (case hx => rfl); (case hy => rfl); (case h1 => rfl); (case p => (with_reducible repeat constructor)); (case hi => exact (by decide : 0 < 1)))
      ((with_reducible apply Tri.eqA (A := blk b21 _ _) (B := blk b21 3 [.int .i64 ((i + 1 : Nat) : Int)])); (case p => (with_reducible repeat constructor)); (case e => rfl))
      (refine TriR.nil (Tri.blockN ?_))
      (apply Tri.rdEndS (y := ⟨i + 1, hil'⟩); (case hk => rfl); (case p => ((try dsimp only [List.cons_append, List.nil_append]); (repeat first | with_reducible constructor | constructor))))
    · rintro D ⟨i, hi⟩ hy
      have hik : i = k := by rw [← hlk, ← rowsW_length (bL s k)]; exact hy
      (try dsimp only [List.cons_append, List.nil_append])
      (refine Tri.blockN (Tri.thenN (TriR.seq (TriR.region ?_))); apply TriR.op; rfl; rfl; apply o_load; rfl; (with_reducible repeat constructor); rfl; rfl; apply TriR.op; rfl; rfl; apply o_load; rfl; (with_reducible repeat constructor); rfl; rfl; apply TriR.op; rfl; rfl; apply o_len; rfl; rfl; apply TriR.op; rfl; rfl; apply o_eql; rfl; rfl; rfl; apply TriR.op; rfl; rfl)
      (apply o_store; (case hx => rfl); (case hy => rfl); (case h1 => rfl); (case p => (with_reducible repeat constructor)); (case hi => exact (by decide : 0 < 1)))
      ((with_reducible apply Tri.eqA (A := blk b6 _ _) (B := blk b6 4 [.bool true])); (case p => (with_reducible repeat constructor)); (case e => (rw [hik]; simp)))
      (refine TriR.nil (Tri.thenN (TriR.ret ?_)))
      (apply Tri.finM1; (case p => (with_reducible repeat constructor)); (case hr => rfl); (case h => exact ResL.cons (Res1.cell rfl (by (with_reducible repeat constructor)) rfl) (ResL.nil)); (apply fin_R (Hn := [])); (case p => exact (by (repeat first | with_reducible constructor | constructor))); exact rfl)
    · rintro D y
      exact y.elim
end Go.Proofs.Ytckdlfbbkemklaa
