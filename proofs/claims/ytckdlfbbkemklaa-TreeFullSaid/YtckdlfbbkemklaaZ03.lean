/- Texts of this claim, put together: DkWalk3, DkWalk4, DkWalk5, DvWalk, PgRaw, PgRaw2, CrcPlain2, CrcBurstPlain, PgPlain, GvZeros, PgWalk, PgWalk2, PgWalk3. -/
import Derived.Test.YtckdlfbbkemklaaZ02
import Derived.Test.YtckdlfbbkemklaaZ00
import Derived.Lib.AppendZerosOnto
section
/- disk: Write. -/
namespace Go.Proofs.Ytckdlfbbkemklaa
open Go Go.RowKit Go.Gv
set_option linter.unusedVariables false
set_option linter.unusedSimpArgs false

theorem mayE_ok {off : Bool} {N : Nat} {i : Int} (h : mayE off N i = 0) : off = false ∧ 0 ≤ i ∧ i * 64 + 64 ≤ N := by
  unfold mayE at h
  split at h
  · cases h
  · rename_i h1
    split at h
    · cases h
    · rename_i h2
      exact ⟨by simpa using h1, by omega, by omega⟩
set_option maxHeartbeats 4000000 in
theorem disk_Write (p a : Nat) (vw : Value) (A : List UInt8) (W : List WW) (off : Bool) (till i : Int) (v : Value) (b : List UInt8) (h1 : PH) (hr : Rd h1 v b.length (B8 b)) (hA : A.length ≤ 1000000) (hWl : W.length ≤ 1000000) (ht : -1 ≤ till ∧ till ≤ 9223372036854775807) :
    Gv.Spec Try.prog 121 #[.pointer (some ⟨p, 0, none⟩), .int .i64 i, v] [blk p 132 [.slice (some ⟨a, 0, none⟩) (A).length (A).length, vw, .bool off, .int .i64 till], blk a 5 (B8 (A)), own 139 2 vw (W).length (WL (W)), manyRd (WT (W)), Ex h1]
    (fun r H' => (mayE off A.length i ≠ 0 ∧ r = .int .i64 (mayE off A.length i : Int) ∧ H' = [blk p 132 [.slice (some ⟨a, 0, none⟩) (A).length (A).length, vw, .bool off, .int .i64 till], blk a 5 (B8 (A)), own 139 2 vw (W).length (WL (W)), manyRd (WT (W)), Ex h1])
      ∨ (mayE off A.length i = 0 ∧ b.length ≠ 64 ∧ r = .int .i64 1 ∧ H' = [blk p 132 [.slice (some ⟨a, 0, none⟩) (A).length (A).length, vw, .bool off, .int .i64 till], blk a 5 (B8 (A)), own 139 2 vw (W).length (WL (W)), manyRd (WT (W)), Ex h1])
      ∨ (mayE off A.length i = 0 ∧ b.length = 64 ∧ till = 0 ∧ r = .int .i64 2 ∧ H' = [blk p 132 [.slice (some ⟨a, 0, none⟩) (A).length (A).length, vw, .bool true, .int .i64 (-1)], blk a 5 (B8 (A)), own 139 2 vw (W).length (WL (W)), manyRd (WT (W)), Ex h1])
      ∨ (mayE off A.length i = 0 ∧ b.length = 64 ∧ till ≠ 0 ∧ r = .int .i64 0 ∧ ∃ vw' vc, H' = [blk p 132 [.slice (some ⟨a, 0, none⟩) (A).length (A).length, vw', .bool off, .int .i64 (stopT till)], blk a 5 (B8 (A)), own 139 2 vw' (W ++ [(⟨i.toNat, vc, b⟩ : WW)]).length (WL (W ++ [(⟨i.toNat, vc, b⟩ : WW)])), manyRd (WT (W ++ [(⟨i.toNat, vc, b⟩ : WW)])), Ex h1])) := by
  refine Gv.Spec.of (fun w h0 hw => ?_)
  refine Calls.enter Try.func121 rfl rfl rfl hw ?_
  simp only [argSlots]
  (try dsimp only [List.cons_append, List.nil_append])
  (refine Tri.seq (Tri.region ?_); apply Tri.op; rfl; apply o_assign; rfl; rfl; refine Tri.nil (Tri.thenN (Tri.seq (Tri.seq (Tri.region ?_)))); apply Tri.op; rfl; apply o_move; rfl; rfl; apply Tri.op; rfl; apply o_move; rfl; rfl; apply Tri.op; rfl)
  (apply o_callS (hs := disk_may p a A.length vw off till i hA); (case hargs => (repeat first | exact evs.nil | (apply evs.cons; case a => rfl))); (case p => (repeat first | with_reducible constructor | constructor)); (case hn => rfl))
  rintro r1 H1 ⟨rfl, rfl⟩
  (try dsimp only [List.cons_append, List.nil_append])
  (apply Tri.op; rfl; apply o_assign; rfl; rfl; refine Tri.nil (Tri.thenN (Tri.seq (Tri.region ?_))); apply Tri.op; rfl; apply o_move; rfl; rfl; apply Tri.op; rfl; apply o_neq; rfl; rfl; rfl; refine Tri.nil (Tri.thenN ?_))
  (apply Tri.condD; (case hc => rfl); (all_goals intro hm))
  · (refine Tri.seq (Tri.region ?_); apply Tri.op; rfl; apply o_move; rfl; rfl; apply Tri.op; rfl; apply o_assign; rfl; rfl; refine Tri.nil (Tri.thenN (Tri.ret (Tri.thenR ?_))))
    (apply Tri.fin; (case hr => rfl); (case h => (repeat (first | exact ResL.nil | (apply ResL.cons; (case a => (first | exact Res1.tmp rfl | (apply Res1.cell; rfl; (with_reducible repeat constructor); rfl) | (apply Res1.agg; rfl; (with_reducible repeat constructor); rfl; rfl))))))); (apply fin_R (Hn := [blk p 132 [.slice (some ⟨a, 0, none⟩) (A).length (A).length, vw, .bool off, .int .i64 till], blk a 5 (B8 (A)), own 139 2 vw (W).length (WL (W)), manyRd (WT (W)), Ex h1])); (case p => (repeat first | with_reducible constructor | constructor)))
    exact .inl ⟨by omega, rfl, rfl⟩
  · have hm0 : mayE off A.length i = 0 := by omega
    have hmo := mayE_ok hm0
    obtain ⟨I, rfl⟩ : ∃ I : Nat, i = (I : Int) := ⟨i.toNat, by omega⟩
    (refine Tri.skip (Tri.thenN (Tri.seq (Tri.seq (Tri.region ?_)))); apply Tri.op; rfl; apply o_move; rfl; rfl; apply Tri.op; rfl)
    (apply o_lenRd (hr := hr); (case hx => rfl); (case hn => rfl))
    (apply Tri.op; rfl; apply o_neq; rfl; rfl; rfl; refine Tri.nil (Tri.thenN ?_))
    (apply Tri.condD; (case hc => rfl); (all_goals intro hl))
    · (refine Tri.seq (Tri.region ?_); apply Tri.op; rfl; apply o_assign; rfl; rfl; refine Tri.nil (Tri.thenN (Tri.ret (Tri.thenR ?_))))
      (apply Tri.fin; (case hr => rfl); (case h => (repeat (first | exact ResL.nil | (apply ResL.cons; (case a => (first | exact Res1.tmp rfl | (apply Res1.cell; rfl; (with_reducible repeat constructor); rfl) | (apply Res1.agg; rfl; (with_reducible repeat constructor); rfl; rfl))))))); (apply fin_R (Hn := [blk p 132 [.slice (some ⟨a, 0, none⟩) (A).length (A).length, vw, .bool off, .int .i64 till], blk a 5 (B8 (A)), own 139 2 vw (W).length (WL (W)), manyRd (WT (W)), Ex h1])); (case p => (repeat first | with_reducible constructor | constructor)))
      exact .inr (.inl ⟨hm0, by omega, rfl, rfl⟩)
    · have hl' : b.length = 64 := by omega
      (refine Tri.skip (Tri.thenN (Tri.seq (Tri.seq (Tri.region ?_)))); apply Tri.op; rfl; apply o_move; rfl; rfl; apply Tri.op; rfl)
      (apply o_callS (hs := disk_stops p (.slice (some ⟨a, 0, none⟩) A.length A.length) vw off till ht); (case hargs => (repeat first | exact evs.nil | (apply evs.cons; case a => rfl))); (case p => (repeat first | with_reducible constructor | constructor)); (case hn => rfl))
      rintro r2 H2 ⟨rfl, rfl⟩
      (try dsimp only [List.cons_append, List.nil_append])
      (refine Tri.nil (Tri.thenN ?_))
      (apply Tri.cond; (case hc => rfl); (all_goals intro hs))
      · have hs' : till = 0 := of_decide_eq_true hs
        (refine Tri.seq (Tri.region ?_); apply Tri.op; rfl; apply o_assign; rfl; rfl; refine Tri.nil (Tri.thenN (Tri.ret (Tri.thenR ?_))))
        ((with_reducible apply Tri.eqA (A := blk p _ _) (B := blk p 132 [.slice (some ⟨a, 0, none⟩) A.length A.length, vw, .bool true, .int .i64 (-1)])); (case p => (with_reducible repeat constructor)); (case e => (rw [hs, Bool.or_true, stopT, if_pos hs'])))
        (apply Tri.fin; (case hr => rfl); (case h => (repeat (first | exact ResL.nil | (apply ResL.cons; (case a => (first | exact Res1.tmp rfl | (apply Res1.cell; rfl; (with_reducible repeat constructor); rfl) | (apply Res1.agg; rfl; (with_reducible repeat constructor); rfl; rfl))))))); (apply fin_R (Hn := [blk p 132 [.slice (some ⟨a, 0, none⟩) (A).length (A).length, vw, .bool true, .int .i64 (-1)], blk a 5 (B8 (A)), own 139 2 vw (W).length (WL (W)), manyRd (WT (W)), Ex h1])); (case p => (repeat first | with_reducible constructor | constructor)))
        exact .inr (.inr (.inl ⟨hm0, hl', hs', rfl, rfl⟩))
      · have hs' : till ≠ 0 := of_decide_eq_false hs
        ((with_reducible apply Tri.eqA (A := blk p _ _) (B := blk p 132 [.slice (some ⟨a, 0, none⟩) A.length A.length, vw, .bool off, .int .i64 (stopT till)])); (case p => (with_reducible repeat constructor)); (case e => (rw [hs, Bool.or_false])))
        (refine Tri.skip (Tri.thenN ?_))
        (apply Tri.seqMeet (α := Value × Value) (Lx := fun x => []) (Hx := fun x => [blk p 132 [.slice (some ⟨a, 0, none⟩) (A).length (A).length, x.1, .bool off, .int .i64 (stopT till)], blk a 5 (B8 (A)), own 139 2 x.1 (W ++ [(⟨I, x.2, b⟩ : WW)]).length (WL (W ++ [(⟨I, x.2, b⟩ : WW)])), manyRd (WT (W ++ [(⟨I, x.2, b⟩ : WW)])), Ex h1, Ex h0]); rotate_left; (rintro ⟨vw', vc⟩; (try dsimp only)); rotate_left)
        · ((first | with_reducible apply Tri.mix [Ex h1] | (apply TriR.mix [Ex h1]; (case hnd => rfl))); (case p => (repeat first | with_reducible constructor | constructor)); (dsimp only [List.length]))
          ((first | (apply TriM.q 0; rfl; rfl) | (apply TriM.qYes 0; rfl; rfl; rfl; with_reducible rfl)); kernel_rfl; rfl; rfl; (intro F K hK; apply o_move; rfl; rfl; exact hK); (first | (apply TriM.q 1; rfl; rfl) | (apply TriM.qYes 1; rfl; rfl; rfl; with_reducible rfl)); kernel_rfl; rfl; rfl; (intro F K hK; apply o_move; rfl; rfl; exact hK); (first | (apply TriM.q 2; rfl; rfl) | (apply TriM.qYes 2; rfl; rfl; rfl; with_reducible rfl)); kernel_rfl; rfl; rfl; (intro F K hK; apply o_nilCheck; rfl; rfl; exact hK); (first | (apply TriM.q 3; rfl; rfl) | (apply TriM.qYes 3; rfl; rfl; rfl; with_reducible rfl)); kernel_rfl; rfl; rfl; (intro F K hK; apply o_fieldAddr; rfl; rfl; exact hK))
          ((first | (apply TriM.q 5; rfl; rfl) | (apply TriM.qYes 5; rfl; rfl; rfl; with_reducible rfl)); kernel_rfl; rfl; rfl; (intro F K hK; apply o_move; rfl; rfl; exact hK); (first | (apply TriM.q 6; rfl; rfl) | (apply TriM.qYes 6; rfl; rfl; rfl; with_reducible rfl)); kernel_rfl; rfl; rfl; (intro F K hK; apply o_move; rfl; rfl; exact hK))
          (apply TriM.a2 4 7; (case hoi => rfl); (case hoj => rfl); (case hgi => rfl); (case hgj => rfl); (case hr => kernel_rfl); (all_goals (try dsimp only [List.cons_append, List.nil_append])))
          · (apply o_load; (case hx => rfl); (case p => (with_reducible repeat constructor)); (case hv => rfl); (case hn => rfl))
            (apply TriM.back; (case p => (repeat first | with_reducible constructor | constructor)))
            (apply TriM.a 7; (case ho => rfl); (case hg => rfl); (case hr => kernel_rfl); (try dsimp only [List.cons_append, List.nil_append]))
            (apply o_callR (hs := bytes_Clone v b (by omega)); (case hargs => (repeat first | exact evs.nil | (apply evs.cons; case a => rfl))); (case hpre => exact rdw_ex (by (with_reducible repeat constructor)) hr); (case hn => rfl))
            rintro vc Hc rfl
            (try dsimp only [List.cons_append, List.nil_append])
            (refine Tri.shape (e := 5) (size := 1) (v := vc) (by (with_reducible repeat constructor)) ?_; rintro ⟨Ac, cc, rfl⟩)
            (apply TriM.back; (case p => (repeat first | with_reducible constructor | constructor)))
            ((first | (apply TriM.q 8; (case ho => rfl); (case hg => rfl)) | (apply TriM.qYes 8; (case ho => rfl); (case hg => rfl); (case hyl => rfl); (case hb => with_reducible rfl))); (case hB => kernel_rfl); (case hd => rfl); (case hn => rfl); (case h => (intro F K hK; (try dsimp only [List.cons_append, List.nil_append]); (apply o_build; (case hp => (repeat first | exact pev.nil | (apply pev.cons; case a => rfl))); (case hf => rfl); (case hn => rfl)); exact hK)))
            (apply TriM.a 9; (case ho => rfl); (case hg => rfl); (case hr => kernel_rfl); (try dsimp only [List.cons_append, List.nil_append]))
            (apply o_litSl (ys := [.int .i64 (I : Int), .slice Ac b.length cc]); (case hp => (repeat first | exact pev.nil | (apply pev.cons; case a => rfl))); (case hm => rfl); (case hf => rfl); (case hn => rfl); intro vl)
            (apply TriM.back; (case p => (repeat first | with_reducible constructor | constructor)))
            (apply TriM.a 10; (case ho => rfl); (case hg => rfl); (case hr => kernel_rfl); (try dsimp only [List.cons_append, List.nil_append]))
            (apply o_append; (case hx => rfl); (case hy => rfl); (case p => (with_reducible repeat constructor)); (case hr => exact rdw_own (by (with_reducible repeat constructor))); (case hl => rfl); (case h1 => (intro y hy; simp at hy; rcases hy with rfl | rfl <;> rfl)); (case hb => omega); (case hn => rfl))
            intro vw'
            (refine Tri.shape (e := 139) (size := 2) (v := vw') (by (with_reducible repeat constructor)) ?_; rintro ⟨Aw, cw, rfl⟩)
            (apply TriM.back; (case p => (repeat first | with_reducible constructor | constructor)))
            ((first | (apply TriM.q 11; rfl; rfl) | (apply TriM.qYes 11; rfl; rfl; rfl; with_reducible rfl)); kernel_rfl; rfl; rfl; (intro F K hK; apply o_nilCheck; rfl; rfl; exact hK); (first | (apply TriM.q 12; rfl; rfl) | (apply TriM.qYes 12; rfl; rfl; rfl; with_reducible rfl)); kernel_rfl; rfl; rfl; (intro F K hK; apply o_fieldAddr; rfl; rfl; exact hK))
            (apply TriM.a 13; (case ho => rfl); (case hg => rfl); (case hr => kernel_rfl); (try dsimp only [List.cons_append, List.nil_append]))
            (apply o_store; (case hx => rfl); (case hy => rfl); (case h1 => rfl); (case p => (with_reducible repeat constructor)); (case hi => (show 1 < 4; omega)))
            (apply TriM.back; (case p => (repeat first | with_reducible constructor | constructor)))
            (apply TriM.nil; (case hr => kernel_rfl); (try dsimp only [List.cons_append, List.nil_append]))
            (refine Tri.thenN ?_)
            (refine Tri.join (e := 5) (v := .slice Ac b.length cc) (l := WT W) (by (with_reducible repeat constructor)) (by (with_reducible repeat constructor)) ?_)
            ((with_reducible apply Tri.eqA (A := manyRd _) (B := manyRd (WT (W ++ [(⟨I, .slice Ac b.length cc, b⟩ : WW)])))); (case p => (with_reducible repeat constructor)); (case e => (rw [WT_append]; rfl)))
            ((with_reducible apply Tri.eqA (A := own 139 2 (.slice Aw (W.length + 1) cw) _ _) (B := own 139 2 (.slice Aw (W.length + 1) cw) (W ++ [(⟨I, .slice Ac b.length cc, b⟩ : WW)]).length (WL (W ++ [(⟨I, .slice Ac b.length cc, b⟩ : WW)])))); (case p => (with_reducible repeat constructor)); (case e => (rw [WL_append, List.length_append]; rfl)))
            (apply Tri.reach (y := (.slice Aw (W.length + 1) cw, .slice Ac b.length cc)); (case hL => ((try dsimp only); (repeat (first | exact trivial | refine And.intro (by rfl) ?_)))); (case p => ((try dsimp only); (repeat (first | exact Pulls.nil | (apply Pulls.cons; (case a => (first | ((repeat (first | with_reducible exact Gv.Pull.head | with_reducible apply Gv.Pull.tail)); done) | (repeat (first | exact Gv.Pull.head | apply Gv.Pull.tail))))))))))
          · (apply o_callR (hs := bytes_Clone v b (by omega)); (case hargs => (repeat first | exact evs.nil | (apply evs.cons; case a => rfl))); (case hpre => exact rdw_ex (by (with_reducible repeat constructor)) hr); (case hn => rfl))
            rintro vc Hc rfl
            (try dsimp only [List.cons_append, List.nil_append])
            (refine Tri.shape (e := 5) (size := 1) (v := vc) (by (with_reducible repeat constructor)) ?_; rintro ⟨Ac, cc, rfl⟩)
            (apply TriM.back; (case p => (repeat first | with_reducible constructor | constructor)))
            ((first | (apply TriM.q 8; (case ho => rfl); (case hg => rfl)) | (apply TriM.qYes 8; (case ho => rfl); (case hg => rfl); (case hyl => rfl); (case hb => with_reducible rfl))); (case hB => kernel_rfl); (case hd => rfl); (case hn => rfl); (case h => (intro F K hK; (try dsimp only [List.cons_append, List.nil_append]); (apply o_build; (case hp => (repeat first | exact pev.nil | (apply pev.cons; case a => rfl))); (case hf => rfl); (case hn => rfl)); exact hK)))
            (apply TriM.a2 4 9; (case hoi => rfl); (case hoj => rfl); (case hgi => rfl); (case hgj => rfl); (case hr => kernel_rfl); (all_goals (try dsimp only [List.cons_append, List.nil_append])))
            · (apply o_load; (case hx => rfl); (case p => (with_reducible repeat constructor)); (case hv => rfl); (case hn => rfl))
              (apply TriM.back; (case p => (repeat first | with_reducible constructor | constructor)))
              (apply TriM.a 9; (case ho => rfl); (case hg => rfl); (case hr => kernel_rfl); (try dsimp only [List.cons_append, List.nil_append]))
              (apply o_litSl (ys := [.int .i64 (I : Int), .slice Ac b.length cc]); (case hp => (repeat first | exact pev.nil | (apply pev.cons; case a => rfl))); (case hm => rfl); (case hf => rfl); (case hn => rfl); intro vl)
              (apply TriM.back; (case p => (repeat first | with_reducible constructor | constructor)))
              (apply TriM.a 10; (case ho => rfl); (case hg => rfl); (case hr => kernel_rfl); (try dsimp only [List.cons_append, List.nil_append]))
              (apply o_append; (case hx => rfl); (case hy => rfl); (case p => (with_reducible repeat constructor)); (case hr => exact rdw_own (by (with_reducible repeat constructor))); (case hl => rfl); (case h1 => (intro y hy; simp at hy; rcases hy with rfl | rfl <;> rfl)); (case hb => omega); (case hn => rfl))
              intro vw'
              (refine Tri.shape (e := 139) (size := 2) (v := vw') (by (with_reducible repeat constructor)) ?_; rintro ⟨Aw, cw, rfl⟩)
              (apply TriM.back; (case p => (repeat first | with_reducible constructor | constructor)))
              ((first | (apply TriM.q 11; rfl; rfl) | (apply TriM.qYes 11; rfl; rfl; rfl; with_reducible rfl)); kernel_rfl; rfl; rfl; (intro F K hK; apply o_nilCheck; rfl; rfl; exact hK); (first | (apply TriM.q 12; rfl; rfl) | (apply TriM.qYes 12; rfl; rfl; rfl; with_reducible rfl)); kernel_rfl; rfl; rfl; (intro F K hK; apply o_fieldAddr; rfl; rfl; exact hK))
              (apply TriM.a 13; (case ho => rfl); (case hg => rfl); (case hr => kernel_rfl); (try dsimp only [List.cons_append, List.nil_append]))
              (apply o_store; (case hx => rfl); (case hy => rfl); (case h1 => rfl); (case p => (with_reducible repeat constructor)); (case hi => (show 1 < 4; omega)))
              (apply TriM.back; (case p => (repeat first | with_reducible constructor | constructor)))
              (apply TriM.nil; (case hr => kernel_rfl); (try dsimp only [List.cons_append, List.nil_append]))
              (refine Tri.thenN ?_)
              (refine Tri.join (e := 5) (v := .slice Ac b.length cc) (l := WT W) (by (with_reducible repeat constructor)) (by (with_reducible repeat constructor)) ?_)
              ((with_reducible apply Tri.eqA (A := manyRd _) (B := manyRd (WT (W ++ [(⟨I, .slice Ac b.length cc, b⟩ : WW)])))); (case p => (with_reducible repeat constructor)); (case e => (rw [WT_append]; rfl)))
              ((with_reducible apply Tri.eqA (A := own 139 2 (.slice Aw (W.length + 1) cw) _ _) (B := own 139 2 (.slice Aw (W.length + 1) cw) (W ++ [(⟨I, .slice Ac b.length cc, b⟩ : WW)]).length (WL (W ++ [(⟨I, .slice Ac b.length cc, b⟩ : WW)])))); (case p => (with_reducible repeat constructor)); (case e => (rw [WL_append, List.length_append]; rfl)))
              (apply Tri.reach (y := (.slice Aw (W.length + 1) cw, .slice Ac b.length cc)); (case hL => ((try dsimp only); (repeat (first | exact trivial | refine And.intro (by rfl) ?_)))); (case p => ((try dsimp only); (repeat (first | exact Pulls.nil | (apply Pulls.cons; (case a => (first | ((repeat (first | with_reducible exact Gv.Pull.head | with_reducible apply Gv.Pull.tail)); done) | (repeat (first | exact Gv.Pull.head | apply Gv.Pull.tail))))))))))
            · (apply o_litSl (ys := [.int .i64 (I : Int), .slice Ac b.length cc]); (case hp => (repeat first | exact pev.nil | (apply pev.cons; case a => rfl))); (case hm => rfl); (case hf => rfl); (case hn => rfl); intro vl)
              (apply TriM.back; (case p => (repeat first | with_reducible constructor | constructor)))
              (apply TriM.a 4; (case ho => rfl); (case hg => rfl); (case hr => kernel_rfl); (try dsimp only [List.cons_append, List.nil_append]))
              (apply o_load; (case hx => rfl); (case p => (with_reducible repeat constructor)); (case hv => rfl); (case hn => rfl))
              (apply TriM.back; (case p => (repeat first | with_reducible constructor | constructor)))
              (apply TriM.a 10; (case ho => rfl); (case hg => rfl); (case hr => kernel_rfl); (try dsimp only [List.cons_append, List.nil_append]))
              (apply o_append; (case hx => rfl); (case hy => rfl); (case p => (with_reducible repeat constructor)); (case hr => exact rdw_own (by (with_reducible repeat constructor))); (case hl => rfl); (case h1 => (intro y hy; simp at hy; rcases hy with rfl | rfl <;> rfl)); (case hb => omega); (case hn => rfl))
              intro vw'
              (refine Tri.shape (e := 139) (size := 2) (v := vw') (by (with_reducible repeat constructor)) ?_; rintro ⟨Aw, cw, rfl⟩)
              (apply TriM.back; (case p => (repeat first | with_reducible constructor | constructor)))
              ((first | (apply TriM.q 11; rfl; rfl) | (apply TriM.qYes 11; rfl; rfl; rfl; with_reducible rfl)); kernel_rfl; rfl; rfl; (intro F K hK; apply o_nilCheck; rfl; rfl; exact hK); (first | (apply TriM.q 12; rfl; rfl) | (apply TriM.qYes 12; rfl; rfl; rfl; with_reducible rfl)); kernel_rfl; rfl; rfl; (intro F K hK; apply o_fieldAddr; rfl; rfl; exact hK))
              (apply TriM.a 13; (case ho => rfl); (case hg => rfl); (case hr => kernel_rfl); (try dsimp only [List.cons_append, List.nil_append]))
              (apply o_store; (case hx => rfl); (case hy => rfl); (case h1 => rfl); (case p => (with_reducible repeat constructor)); (case hi => (show 1 < 4; omega)))
              (apply TriM.back; (case p => (repeat first | with_reducible constructor | constructor)))
              (apply TriM.nil; (case hr => kernel_rfl); (try dsimp only [List.cons_append, List.nil_append]))
              (refine Tri.thenN ?_)
              (refine Tri.join (e := 5) (v := .slice Ac b.length cc) (l := WT W) (by (with_reducible repeat constructor)) (by (with_reducible repeat constructor)) ?_)
              ((with_reducible apply Tri.eqA (A := manyRd _) (B := manyRd (WT (W ++ [(⟨I, .slice Ac b.length cc, b⟩ : WW)])))); (case p => (with_reducible repeat constructor)); (case e => (rw [WT_append]; rfl)))
              ((with_reducible apply Tri.eqA (A := own 139 2 (.slice Aw (W.length + 1) cw) _ _) (B := own 139 2 (.slice Aw (W.length + 1) cw) (W ++ [(⟨I, .slice Ac b.length cc, b⟩ : WW)]).length (WL (W ++ [(⟨I, .slice Ac b.length cc, b⟩ : WW)])))); (case p => (with_reducible repeat constructor)); (case e => (rw [WL_append, List.length_append]; rfl)))
              (apply Tri.reach (y := (.slice Aw (W.length + 1) cw, .slice Ac b.length cc)); (case hL => ((try dsimp only); (repeat (first | exact trivial | refine And.intro (by rfl) ?_)))); (case p => ((try dsimp only); (repeat (first | exact Pulls.nil | (apply Pulls.cons; (case a => (first | ((repeat (first | with_reducible exact Gv.Pull.head | with_reducible apply Gv.Pull.tail)); done) | (repeat (first | exact Gv.Pull.head | apply Gv.Pull.tail))))))))))
        · (refine Tri.seq (Tri.region ?_); apply Tri.op; rfl; apply o_assign; rfl; rfl; refine Tri.nil (Tri.thenN (Tri.ret ?_)))
          (apply Tri.fin; (case hr => rfl); (case h => (repeat (first | exact ResL.nil | (apply ResL.cons; (case a => (first | exact Res1.tmp rfl | (apply Res1.cell; rfl; (with_reducible repeat constructor); rfl) | (apply Res1.agg; rfl; (with_reducible repeat constructor); rfl; rfl))))))); (apply fin_R (Hn := [blk p 132 [.slice (some ⟨a, 0, none⟩) (A).length (A).length, vw', .bool off, .int .i64 (stopT till)], blk a 5 (B8 (A)), own 139 2 vw' (W ++ [(⟨I, vc, b⟩ : WW)]).length (WL (W ++ [(⟨I, vc, b⟩ : WW)])), manyRd (WT (W ++ [(⟨I, vc, b⟩ : WW)])), Ex h1])); (case p => (repeat first | with_reducible constructor | constructor)))
          exact .inr (.inr (.inr ⟨hm0, hl', hs', rfl, vw', vc, rfl⟩))
end Go.Proofs.Ytckdlfbbkemklaa
end
section
/- disk: Read and Flush. -/
namespace Go.Proofs.Ytckdlfbbkemklaa
open Go Go.RowKit Go.Gv
set_option linter.unusedVariables false
set_option linter.unusedSimpArgs false

set_option maxHeartbeats 4000000 in
theorem disk_Read (p a : Nat) (vw : Value) (A : List UInt8) (W : List WW) (off : Bool) (till i : Int) (hA : A.length ≤ 1000000) (hW : WOk A.length W) (hWl : W.length ≤ 1000000) :
    Gv.Spec Try.prog 140 #[.pointer (some ⟨p, 0, none⟩), .int .i64 i] [blk p 132 [.slice (some ⟨a, 0, none⟩) (A).length (A).length, vw, .bool off, .int .i64 till], blk a 5 (B8 (A)), own 139 2 vw (W).length (WL (W)), manyRd (WT (W))]
    (fun r H' => (mayE off A.length i ≠ 0 ∧ r = .tuple #[.slice none 0 0, .int .i64 (mayE off A.length i : Int)] ∧ H' = [blk p 132 [.slice (some ⟨a, 0, none⟩) (A).length (A).length, vw, .bool off, .int .i64 till], blk a 5 (B8 (A)), own 139 2 vw (W).length (WL (W)), manyRd (WT (W))])
      ∨ (mayE off A.length i = 0 ∧ ∃ v, r = .tuple #[v, .int .i64 0] ∧ H' = [own 5 1 v (readM A W i).length (B8 (readM A W i)), blk p 132 [.slice (some ⟨a, 0, none⟩) (A).length (A).length, vw, .bool off, .int .i64 till], blk a 5 (B8 (A)), own 139 2 vw (W).length (WL (W)), manyRd (WT (W))])) := by
  refine Gv.Spec.of (fun w h0 hw => ?_)
  refine Calls.enter Try.func140 rfl rfl rfl hw ?_
  simp only [argSlots]
  (try dsimp only [List.cons_append, List.nil_append])
  (refine Tri.seq (Tri.region ?_); apply Tri.op; rfl; apply o_assign; rfl; rfl; apply Tri.op; rfl; apply o_assign; rfl; rfl; refine Tri.nil (Tri.thenN (Tri.seq (Tri.seq (Tri.region ?_)))); apply Tri.op; rfl; apply o_move; rfl; rfl; apply Tri.op; rfl; apply o_move; rfl; rfl; apply Tri.op; rfl)
  (apply o_callS (hs := disk_may p a A.length vw off till i hA); (case hargs => (repeat first | exact evs.nil | (apply evs.cons; case a => rfl))); (case p => (repeat first | with_reducible constructor | constructor)); (case hn => rfl))
  rintro r1 H1 ⟨rfl, rfl⟩
  (try dsimp only [List.cons_append, List.nil_append])
  (apply Tri.op; rfl; apply o_assign; rfl; rfl; refine Tri.nil (Tri.thenN (Tri.seq (Tri.region ?_))); apply Tri.op; rfl; apply o_move; rfl; rfl; apply Tri.op; rfl; apply o_neq; rfl; rfl; rfl; refine Tri.nil (Tri.thenN ?_))
  (apply Tri.condD; (case hc => rfl); (all_goals intro hm))
  · (refine Tri.seq (Tri.region ?_); apply Tri.op; rfl; apply o_move; rfl; rfl; apply Tri.op; rfl; apply o_assign; rfl; rfl; apply Tri.op; rfl; apply o_assign; rfl; rfl; refine Tri.nil (Tri.thenN (Tri.ret (Tri.thenR ?_))))
    (apply Tri.fin; (case hr => rfl); (case h => (repeat (first | exact ResL.nil | (apply ResL.cons; (case a => (first | exact Res1.tmp rfl | (apply Res1.cell; rfl; (with_reducible repeat constructor); rfl) | (apply Res1.agg; rfl; (with_reducible repeat constructor); rfl; rfl))))))); (apply fin_R (Hn := [blk p 132 [.slice (some ⟨a, 0, none⟩) (A).length (A).length, vw, .bool off, .int .i64 till], blk a 5 (B8 (A)), own 139 2 vw (W).length (WL (W)), manyRd (WT (W))])); (case p => (repeat first | with_reducible constructor | constructor)))
    exact .inl ⟨by omega, rfl, rfl⟩
  · have hm0 : mayE off A.length i = 0 := by omega
    have hmo := mayE_ok hm0
    obtain ⟨I, rfl⟩ : ∃ I : Nat, i = (I : Int) := ⟨i.toNat, by omega⟩
    (refine Tri.skip (Tri.thenN (Tri.seq (Tri.seq (Tri.region ?_)))); apply Tri.op; rfl; apply o_move; rfl; rfl; apply Tri.op; rfl; apply o_nilCheck; rfl; rfl; apply Tri.op; rfl; apply o_fieldAddr; rfl; rfl; apply Tri.op; rfl; apply o_load; rfl; (with_reducible repeat constructor); rfl; rfl; apply Tri.op; rfl; apply o_lenOwn; rfl; (with_reducible repeat constructor); rfl; apply Tri.op; rfl; apply o_sub64; rfl; rfl; rfl; (omega); apply Tri.op; rfl; apply o_assign; rfl; rfl; refine Tri.nil (Tri.thenN (Tri.block ?_)))
    (apply Tri.loop (α := { k : Nat // k ≤ W.length ∧ lastW W (I : Int) W.length = lastW W (I : Int) k }) (m := fun x => x.1) (Lx := fun x => [(0, .pointer (some ⟨p, 0, none⟩)), (1, .int .i64 (I : Int)), (7, .int .i64 ((x.1 : Int) - 1))]) (Hx := fun x => [blk p 132 [.slice (some ⟨a, 0, none⟩) (A).length (A).length, vw, .bool off, .int .i64 till], blk a 5 (B8 (A)), own 139 2 vw (W).length (WL (W)), manyRd (WT (W)), Ex h0]) (x0 := ⟨W.length, Nat.le_refl _, rfl⟩); (case hL => ((try dsimp only); (repeat (first | exact trivial | refine And.intro (by rfl) ?_)))); (case hH => ((try dsimp only); apply St.all; (repeat first | with_reducible constructor | constructor)))); (rintro ⟨k, hk, hl⟩ mx hmx; (try dsimp only at hmx ⊢))
    (refine Tri.seq (Tri.seq (Tri.region ?_)); apply Tri.op; rfl; apply o_move; rfl; rfl; apply Tri.op; rfl; apply o_geq; rfl; rfl; rfl; refine Tri.nil (Tri.thenN ?_))
    (apply Tri.condD; (case hc => rfl); (all_goals intro hc))
    · obtain ⟨j, rfl⟩ : ∃ j, k = j + 1 := ⟨k - 1, by omega⟩
      have hj : j < W.length := by omega
      (refine Tri.skip (Tri.thenN (Tri.seq (Tri.block (Tri.seq (Tri.region ?_))))); apply Tri.op; rfl; apply o_move; rfl; rfl; apply Tri.op; rfl; apply o_nilCheck; rfl; rfl; apply Tri.op; rfl; apply o_fieldAddr; rfl; rfl; apply Tri.op; rfl; apply o_load; rfl; (with_reducible repeat constructor); rfl; rfl; apply Tri.op; rfl; apply o_move; rfl; rfl; apply Tri.op; rfl)
      (apply o_ixOwn (j := j); (case hx => rfl); (case hy => rfl); (case p => (with_reducible repeat constructor)); (case hj => omega); (case hlt => exact hj); (case hn => rfl))
      (apply Tri.op; rfl; apply o_fieldE; rfl; rfl; apply Tri.op; rfl)
      (apply o_loadOwn; (case hx => rfl); (case p => (with_reducible repeat constructor)); (case hv => exact WL_get0 W j hj); (case hn => rfl))
      (apply Tri.op; rfl; apply o_move; rfl; rfl; apply Tri.op; rfl; apply o_eql; rfl; rfl; rfl; refine Tri.nil (Tri.thenN ?_))
      (apply Tri.condD; (case hc => rfl); (all_goals intro hq))
      · (refine Tri.seq (Tri.region ?_); apply Tri.op; rfl; apply o_move; rfl; rfl; apply Tri.op; rfl; apply o_nilCheck; rfl; rfl; apply Tri.op; rfl; apply o_fieldAddr; rfl; rfl; apply Tri.op; rfl; apply o_load; rfl; (with_reducible repeat constructor); rfl; rfl; apply Tri.op; rfl; apply o_move; rfl; rfl; apply Tri.op; rfl)
        (apply o_ixOwn (j := j); (case hx => rfl); (case hy => rfl); (case p => (with_reducible repeat constructor)); (case hj => omega); (case hlt => exact hj); (case hn => rfl))
        (apply Tri.op; rfl; apply o_fieldE; rfl; rfl; apply Tri.op; rfl)
        (apply o_loadOwn; (case hx => rfl); (case p => (with_reducible repeat constructor)); (case hv => exact WL_get1 W j hj); (case hn => rfl))
        (apply Tri.op; rfl)
        ((with_reducible apply o_callR (hs := bytes_Clone (W[j]'hj).v (W[j]'hj).b (by have := (hW.get hj).2; omega))); (case hargs => (repeat first | exact evs.nil | (apply evs.cons; case a => rfl))); (case hpre => exact rdw_many (by (with_reducible repeat constructor)) (WT_mem W j hj)); (case hn => rfl))
        rintro v Hc rfl
        (try dsimp only [List.cons_append, List.nil_append])
        (apply Tri.op; rfl; apply o_assign; rfl; rfl; apply Tri.op; rfl; apply o_assign; rfl; rfl; refine Tri.nil (Tri.thenN (Tri.ret (Tri.blockR (Tri.thenR (Tri.thenR (Tri.blockR (Tri.thenR ?_))))))))
        have e : readM A W (I : Int) = (W[j]'hj).b := by
          rw [readM, hl, lastW_hit hj hq]; rfl
        ((with_reducible apply Tri.eqA (A := own 5 1 v _ _) (B := own 5 1 v (readM A W (I : Int)).length (B8 (readM A W (I : Int))))); (case p => (with_reducible repeat constructor)); (case e => (rw [e])))
        (apply Tri.fin; (case hr => rfl); (case h => (repeat (first | exact ResL.nil | (apply ResL.cons; (case a => (first | exact Res1.tmp rfl | (apply Res1.cell; rfl; (with_reducible repeat constructor); rfl) | (apply Res1.agg; rfl; (with_reducible repeat constructor); rfl; rfl))))))); (apply fin_R (Hn := [own 5 1 v (readM A W (I : Int)).length (B8 (readM A W (I : Int))), blk p 132 [.slice (some ⟨a, 0, none⟩) (A).length (A).length, vw, .bool off, .int .i64 till], blk a 5 (B8 (A)), own 139 2 vw (W).length (WL (W)), manyRd (WT (W))])); (case p => (repeat first | with_reducible constructor | constructor)))
        exact .inr ⟨hm0, v, rfl, rfl⟩
      · (refine Tri.skip (Tri.blockN (Tri.thenN (Tri.region ?_))); apply Tri.op; rfl; apply o_move; rfl; rfl; apply Tri.op; rfl; apply o_sub64; rfl; rfl; rfl; (omega); apply Tri.op; rfl; apply o_assign; rfl; rfl; refine Tri.nil (Tri.thenN ?_))
        ((with_reducible apply Tri.seti 7 (((j : Int) - 1))); (case h => rfl); (case hi => omega))
        (apply Tri.again (y := ⟨j, by omega, by rw [hl, lastW_miss hj hq]⟩); (case p => ((try dsimp only); (repeat (first | exact Pulls.nil | (apply Pulls.cons; (case a => (first | ((repeat (first | with_reducible exact Gv.Pull.head | with_reducible apply Gv.Pull.tail)); done) | (repeat (first | exact Gv.Pull.head | apply Gv.Pull.tail))))))))); (case hm => ((try dsimp only); omega)); (try dsimp only))
        (repeat (first | exact trivial | refine And.intro (by rfl) ?_))
    · obtain rfl : k = 0 := by omega
      have e : readM A W (I : Int) = (A.drop (I * 64)).take 64 := by
        rw [readM, hl]; rfl
      have hel : ((A.drop (I * 64)).take 64).length = 64 := by rw [List.length_take, List.length_drop]; omega
      ((with_reducible refine Tri.exit (Tri.thenE (Tri.thenE (Tri.blockE (Tri.thenN (Tri.seq (Tri.region ?_))))))); apply Tri.op; rfl; apply o_move; rfl; rfl; apply Tri.op; rfl; apply o_move; rfl; rfl; apply Tri.op; rfl)
      (apply o_callS (hs := disk_sector p a A.length I vw off till hA (by omega)); (case hargs => (repeat first | exact evs.nil | (apply evs.cons; case a => rfl))); (case p => (repeat first | with_reducible constructor | constructor)); (case hn => rfl))
      rintro r2 H2 ⟨rfl, rfl⟩
      (try dsimp only [List.cons_append, List.nil_append])
      (apply Tri.op; rfl)
      (apply o_callR (hs := bytes_Clone (.slice (some ⟨a, I * 64, none⟩) 64 (A.length - I * 64)) ((A.drop (I * 64)).take 64) (by omega)); (case hargs => (repeat first | exact evs.nil | (apply evs.cons; case a => rfl))); (case hpre => (rw [hel]; exact rdw_blkAt (by (with_reducible repeat constructor)) ⟨by omega, by omega⟩ (by rw [B8_length, hel, B8, B8, List.map_take, List.map_drop]))); (case hn => rfl))
      rintro v Hc rfl
      (try dsimp only [List.cons_append, List.nil_append])
      (apply Tri.op; rfl; apply o_assign; rfl; rfl; apply Tri.op; rfl; apply o_assign; rfl; rfl; refine Tri.nil (Tri.thenN (Tri.ret ?_)))
      ((with_reducible apply Tri.eqA (A := own 5 1 v _ _) (B := own 5 1 v (readM A W (I : Int)).length (B8 (readM A W (I : Int))))); (case p => (with_reducible repeat constructor)); (case e => (rw [e])))
      (apply Tri.fin; (case hr => rfl); (case h => (repeat (first | exact ResL.nil | (apply ResL.cons; (case a => (first | exact Res1.tmp rfl | (apply Res1.cell; rfl; (with_reducible repeat constructor); rfl) | (apply Res1.agg; rfl; (with_reducible repeat constructor); rfl; rfl))))))); (apply fin_R (Hn := [own 5 1 v (readM A W (I : Int)).length (B8 (readM A W (I : Int))), blk p 132 [.slice (some ⟨a, 0, none⟩) (A).length (A).length, vw, .bool off, .int .i64 till], blk a 5 (B8 (A)), own 139 2 vw (W).length (WL (W)), manyRd (WT (W))])); (case p => (repeat first | with_reducible constructor | constructor)))
      exact .inr ⟨hm0, v, rfl, rfl⟩
end Go.Proofs.Ytckdlfbbkemklaa
end
section
/- disk: Flush, and what a crash keeps. -/
namespace Go.Proofs.Ytckdlfbbkemklaa
open Go Go.RowKit Go.Gv
set_option linter.unusedVariables false
set_option linter.unusedSimpArgs false

theorem WOk.take {N : Nat} {W : List WW} (h : WOk N W) (k : Nat) : WOk N (W.take k) := fun x hx => h x (List.mem_of_mem_take hx)
end Go.Proofs.Ytckdlfbbkemklaa
end
section
/- A disk as one atom: what its functions do. -/
namespace Go.Proofs.Ytckdlfbbkemklaa
open Go Go.RowKit Go.Gv
set_option linter.unusedVariables false
set_option linter.unusedSimpArgs false

/-- a disk that says S -/
def DSK (p : Nat) (S : DS) : Atom := Gv.exA (fun z : Nat × Value × { W : List WW // WP2 W = S.W } => Gv.star [blk p 132 [.slice (some ⟨z.1, 0, none⟩) (S.A).length (S.A).length, z.2.1, .bool S.off, .int .i64 S.till], blk z.1 5 (B8 (S.A)), own 139 2 z.2.1 (z.2.2.1).length (WL (z.2.2.1)), manyRd (WT (z.2.2.1))])
theorem dsk_open {w0 w : World} {H : List Atom} {p : Nat} {S : DS} (h : St w0 w (DSK p S :: H)) : ∃ a vw W, WP2 W = S.W ∧ St w0 w ([blk p 132 [.slice (some ⟨a, 0, none⟩) (S.A).length (S.A).length, vw, .bool S.off, .int .i64 S.till], blk a 5 (B8 (S.A)), own 139 2 vw (W).length (WL (W)), manyRd (WT (W))] ++ H) := by
  obtain ⟨⟨a, vw, W, hW⟩, h1⟩ := St.exA h
  exact ⟨a, vw, W, hW, St.unstar h1⟩
theorem dsk_close {w0 w : World} {H : List Atom} {p a : Nat} {vw : Value} {W : List WW} {S : DS} (hW : WP2 W = S.W) (h : St w0 w ([blk p 132 [.slice (some ⟨a, 0, none⟩) (S.A).length (S.A).length, vw, .bool S.off, .int .i64 S.till], blk a 5 (B8 (S.A)), own 139 2 vw (W).length (WL (W)), manyRd (WT (W))] ++ H)) : St w0 w (DSK p S :: H) :=
  St.toExA (A := fun z : Nat × Value × { W : List WW // WP2 W = S.W } => Gv.star [blk p 132 [.slice (some ⟨z.1, 0, none⟩) (S.A).length (S.A).length, z.2.1, .bool S.off, .int .i64 S.till], blk z.1 5 (B8 (S.A)), own 139 2 z.2.1 (z.2.2.1).length (WL (z.2.2.1)), manyRd (WT (z.2.2.1))]) (a, vw, ⟨W, hW⟩) (St.star h)
theorem WP2_ok {W : List WW} {S : DS} (h : S.ok) (hW : WP2 W = S.W) : WOk S.A.length W := fun x hx => by
  have := h.2.2 (x.i, x.b) (by rw [← hW]; exact List.mem_map.2 ⟨x, hx, rfl⟩)
  exact this
theorem WP2_len {W : List WW} {S : DS} (hW : WP2 W = S.W) : W.length = S.W.length := by rw [← hW]; simp [WP2]
theorem disk_ReadD (p : Nat) (S : DS) (i : Int) (hS : S.ok) (hl : S.W.length ≤ 1000000) :
    Gv.Spec Try.prog 140 #[.pointer (some ⟨p, 0, none⟩), .int .i64 i] [DSK p S]
    (fun r H' => (mayE S.off S.A.length i ≠ 0 ∧ r = .tuple #[.slice none 0 0, .int .i64 (mayE S.off S.A.length i : Int)] ∧ H' = [DSK p S])
      ∨ (mayE S.off S.A.length i = 0 ∧ ∃ v, r = .tuple #[v, .int .i64 0] ∧ H' = [DSK p S, own 5 1 v 64 (B8 (sec S.V i.toNat))])) := fun w0 w H hw => by
  obtain ⟨a, vw, W, hW, h1⟩ := dsk_open hw
  have hWl := WP2_len hW
  refine (disk_Read p a vw S.A W S.off S.till i hS.1 (WP2_ok hS hW) (by omega) w0 w H h1).mono ?_
  intro e w' he
  cases e with
  | returned v =>
    obtain ⟨H', hR, h2⟩ := he
    rcases hR with ⟨hm, hr, rfl⟩ | ⟨hm, u, hr, rfl⟩
    · exact ⟨_, .inl ⟨hm, hr, rfl⟩, dsk_close hW h2⟩
    · obtain ⟨_, hi0, hi1⟩ := mayD_ok hm
      have e1 : readM S.A W i = sec S.V i.toNat := by
        have := readM_sec (WP2_ok hS hW) i.toNat
        rw [show ((i.toNat : Nat) : Int) = i by omega] at this
        rw [this, ← flW_WP, hW]; rfl
      have hVl := DS.V_length hS
      have e2 : (sec S.V i.toNat).length = 64 := sec_length (by omega)
      rw [e1, e2] at h2
      exact ⟨_, .inr ⟨hm, u, hr, rfl⟩, dsk_close hW (St.unrot h2)⟩
  | panicked c => exact he.elim
  | outgrown => exact he.elim
theorem disk_WriteD (p : Nat) (S : DS) (i : Int) (v : Value) (b : List UInt8) (h1 : PH) (hr : Rd h1 v b.length (B8 b)) (hS : S.ok) (hl : S.W.length ≤ 1000000) :
    Gv.Spec Try.prog 121 #[.pointer (some ⟨p, 0, none⟩), .int .i64 i, v] [DSK p S, Ex h1]
    (fun r H' => r = .int .i64 ((S.wr i b).2 : Int) ∧ H' = [DSK p (S.wr i b).1, Ex h1]) := fun w0 w H hw => by
  obtain ⟨a, vw, W, hW, h2⟩ := dsk_open hw
  have hWl := WP2_len hW
  refine (disk_Write p a vw S.A W S.off S.till i v b h1 hr hS.1 (by omega) hS.2.1 w0 w H h2).mono ?_
  intro e w' he
  cases e with
  | returned u =>
    obtain ⟨H', hR, h3⟩ := he
    refine ⟨[DSK p (S.wr i b).1, Ex h1], ⟨?_, rfl⟩, ?_⟩
    · rcases hR with ⟨hm, hr, rfl⟩ | ⟨hm, hb, hr, rfl⟩ | ⟨hm, hb, ht, hr, rfl⟩ | ⟨hm, hb, ht, hr, vw', vc, rfl⟩
      · rw [hr, DS.wr, if_pos hm]
      · rw [hr, DS.wr, if_neg (by rw [hm]; simp), if_pos hb]; rfl
      · rw [hr, DS.wr, if_neg (by rw [hm]; simp), if_neg (by rw [hb]; simp), if_pos ht]; rfl
      · rw [hr, DS.wr, if_neg (by rw [hm]; simp), if_neg (by rw [hb]; simp), if_neg ht]; rfl
    · rcases hR with ⟨hm, hr, rfl⟩ | ⟨hm, hb, hr, rfl⟩ | ⟨hm, hb, ht, hr, rfl⟩ | ⟨hm, hb, ht, hr, vw', vc, rfl⟩
      · rw [DS.wr, if_pos hm]; exact dsk_close hW h3
      · rw [DS.wr, if_neg (by rw [hm]; simp), if_pos hb]; exact dsk_close hW h3
      · rw [DS.wr, if_neg (by rw [hm]; simp), if_neg (by rw [hb]; simp), if_pos ht]
        exact dsk_close (S := { S with off := true, till := -1 }) hW h3
      · rw [DS.wr, if_neg (by rw [hm]; simp), if_neg (by rw [hb]; simp), if_neg ht]
        refine dsk_close (S := { S with W := S.W ++ [(i.toNat, b)], till := stopT S.till }) (W := W ++ [⟨i.toNat, vc, b⟩]) (by simp [WP2, ← hW]) h3
  | panicked c => exact he.elim
  | outgrown => exact he.elim
end Go.Proofs.Ytckdlfbbkemklaa
end
section
/- page: raw bytes to a disk and back. -/
namespace Go.Proofs.Ytckdlfbbkemklaa
open Go Go.RowKit Go.Gv
set_option linter.unusedVariables false
set_option linter.unusedSimpArgs false

/-- bytes up to whole pages -/
def padN (n : Nat) : Nat := (256 - n % 256) % 256
def padB (b : List UInt8) : List UInt8 := b ++ List.replicate (padN b.length) 0
theorem padB_length (b : List UInt8) : (padB b).length = b.length + padN b.length := by simp [padB]
theorem padB_mod (b : List UInt8) : (padB b).length % 256 = 0 := by rw [padB_length]; unfold padN; omega
/-- a disk whose first writes went well -/
structure RwS (S : DS) (i : Int) (b : List UInt8) where
  k : Nat
  hk : k * 64 ≤ b.length
  ok : (S.wrs i (secs b k)).2 = 0
/-- .. and one that went wrong -/
structure RwE (S : DS) (i : Int) (b : List UInt8) where
  k : Nat
  hk : k * 64 + 64 ≤ b.length
  ok : (S.wrs i (secs b k)).2 = 0
  bad : (S.wrs i (secs b (k + 1))).2 ≠ 0
theorem rwE_all {S : DS} {i : Int} {b : List UInt8} (x : RwE S i b) (hm : b.length % 64 = 0) : S.wrs i (secs b (b.length / 64)) = S.wrs i (secs b (x.k + 1)) := by
  have h := x.hk
  have : secs b (b.length / 64) = secs b (x.k + 1) ++ ((List.range (b.length / 64 - (x.k + 1))).map fun j => sec b (x.k + 1 + j)) := by
    have e : b.length / 64 = (x.k + 1) + (b.length / 64 - (x.k + 1)) := by omega
    unfold secs
    conv => lhs; rw [e]
    rw [List.range_add, List.map_append, List.map_map]; rfl
  rw [this, DS.wrs_stop _ _ _ _ x.bad]
theorem rw_step {S : DS} {i : Int} {b : List UInt8} {k : Nat} (ok : (S.wrs i (secs b k)).2 = 0) : S.wrs i (secs b (k + 1)) = (S.wrs i (secs b k)).1.wr (i + k) (sec b k) := by
  rw [secs_succ, DS.wrs_snoc _ _ _ _ ok, secs_length]
theorem rd_part {h : PH} {A : Option Addr} {m c k : Nat} {l : List UInt8} (hr : Rd h (.slice A m c) m (B8 l)) (hl : l.length = m) (hk : k * 64 + 64 ≤ m) : Rd h (.slice (A.map (·.add (k * 64))) 64 64) (sec l k).length (B8 (sec l k)) := by
  have hs := sec_length (b := l) (j := k) (by omega)
  obtain ⟨A', c', hv, hc, h3⟩ := hr
  cases hv
  refine ⟨_, _, by rw [hs], ⟨by rw [hs]; exact Nat.le_refl _, by unfold maxLen; omega⟩, fun j u hu => ?_⟩
  rw [show B8 (sec l k) = ((B8 l).drop (k * 64)).take 64 by simp [sec, B8, List.map_take, List.map_drop], List.getElem?_take] at hu
  split at hu
  · rename_i hj
    rw [List.getElem?_drop] at hu
    obtain ⟨a, rfl, cs, T, fr, g1, g2, g3⟩ := h3 _ u hu
    refine ⟨a.add (k * 64), rfl, cs, T, fr, ?_, ?_, ?_⟩
    · have hb : (a.add (k * 64)).block = a.block := by unfold Addr.add; split <;> rfl
      rw [hb]; exact g1
    · rw [Addr.add_add]; exact g2
    · rw [Addr.add_add]; exact g3
  · cases hu
set_option maxHeartbeats 16000000 in
theorem page_WriteRaw (p : Nat) (S : DS) (addr : Int) (v : Value) (b : List UInt8) (h1 : PH) (hr : Rd h1 v b.length (B8 b)) (hS : S.ok) (hb : b.length ≤ 100000) (hl : S.W.length + b.length ≤ 900000) (ha : -1000000 ≤ addr ∧ addr ≤ 1000000) :
    Gv.Spec Try.prog 93 #[.pointer (some ⟨p, 0, none⟩), .int .i64 addr, v] [DSK p S, Ex h1]
    (fun r H' => r = .int .i64 ((S.wrs (addr * 4) (secs (padB b) ((padB b).length / 64))).2 : Int) ∧ H' = [DSK p (S.wrs (addr * 4) (secs (padB b) ((padB b).length / 64))).1, Ex h1]) := by
  refine Gv.Spec.of (fun w h0 hw => ?_)
  refine Calls.enterM Try.func93 rfl rfl rfl hw ?_
  simp only [argSlots]
  (try dsimp only [List.cons_append, List.nil_append])
  (refine TriR.seq (TriR.region ?_); apply TriR.op; rfl; rfl)
  (first | (apply o_boxA; (case hx => rfl); (case hn => rfl); intro b3) | (apply o_box1; (case hx => rfl); (case h1 => rfl); (case hn => rfl); intro b3))
  (apply TriR.op; rfl; rfl)
  (apply o_alloc; (case hn => rfl); intro b6)
  (refine TriR.nil (Tri.thenN (TriR.seq (TriR.region ?_))); apply TriR.op; rfl; rfl; apply o_move; rfl; rfl; apply TriR.op; rfl; rfl)
  (apply o_callR (hs := bytes_Clone v b (by omega)); (case hargs => (repeat first | exact evs.nil | (apply evs.cons; case a => rfl))); (case hpre => exact rdw_ex (by (with_reducible repeat constructor)) hr); (case hn => rfl))
  rintro u H' rfl
  (try dsimp only [List.cons_append, List.nil_append])
  ((with_reducible apply Tri.eqA (A := own 5 1 u b.length (B8 b)) (B := own 5 1 u (b ++ List.replicate 0 0).length (B8 (b ++ List.replicate 0 0)))); (case p => (with_reducible repeat constructor)); (case e => (rw [List.replicate_zero, List.append_nil])))
  (apply TriR.op; rfl; rfl; apply o_assign; rfl; rfl; refine TriR.nil (Tri.thenN (TriR.seq (TriR.block ?_))))
  (apply TriR.loop (α := Σ' (j : Nat) (u : Value), j ≤ padN b.length) (m := fun x => padN b.length - x.1) (Lx := fun x => [(0, .pointer (some ⟨p, 0, none⟩)), (1, .int .i64 addr), (2, x.2.1), (3, .pointer (some ⟨b3, 0, none⟩)), (6, .pointer (some ⟨b6, 0, none⟩))]) (Hx := fun x => [own 5 1 x.2.1 (b ++ List.replicate x.1 0).length (B8 (b ++ List.replicate x.1 0)), blk b6 44 [.int .i64 0], blk b3 58 [.pointer (some ⟨p, 0, none⟩)], DSK p S, Ex h1, Ex h0]) (x0 := ⟨0, u, Nat.zero_le _⟩); (case hL => ((try dsimp only); (repeat (first | exact trivial | refine And.intro (by rfl) ?_)))); (case hH => ((try dsimp only); apply St.all; (repeat first | with_reducible constructor | constructor)))); (rintro ⟨j, u, hj⟩ mx hmx; (try dsimp only at hmx ⊢))
  have hjl : (b ++ List.replicate j (0 : UInt8)).length = b.length + j := by simp
  (refine TriR.seq (TriR.seq (TriR.region ?_)); apply TriR.op; rfl; rfl; apply o_move; rfl; rfl; apply TriR.op; rfl; rfl; apply o_lenOwn; rfl; (with_reducible repeat constructor); rfl; apply TriR.op; rfl; rfl; apply o_rem; rfl; rfl; rfl; (omega); (omega); apply TriR.op; rfl; rfl; apply o_neq; rfl; rfl; rfl; refine TriR.nil (Tri.thenN ?_))
  (apply TriR.condD; (case hc => rfl); (all_goals intro h))
  · have hj' : j < padN b.length := by
      rw [hjl] at h
      unfold padN at hj ⊢; omega
    (refine TriR.skip (Tri.thenN (TriR.block (TriR.region ?_))); apply TriR.op; rfl; rfl; apply o_move; rfl; rfl; apply TriR.op; rfl; rfl)
    (apply o_litSl (ys := [.int .u8 0]); (case hp => (repeat first | exact pev.nil | (apply pev.cons; case a => rfl))); (case hm => rfl); (case hf => rfl); (case hn => rfl); intro vl)
    (apply TriR.op; rfl; rfl)
    (apply o_append; (case hx => rfl); (case hy => rfl); (case p => (with_reducible repeat constructor)); (case hr => exact rdw_own (by (with_reducible repeat constructor))); (case hl => rfl); (case h1 => (intro y hy; simp at hy; subst hy; rfl)); (case hb => (rw [hjl]; unfold padN at hj; omega)); (case hn => rfl))
    intro u'
    (apply TriR.op; rfl; rfl; apply o_assign; rfl; rfl; refine TriR.nil (Tri.blockN (Tri.thenN ?_)))
    ((with_reducible apply Tri.eqA (A := own 5 1 u' _ _) (B := own 5 1 u' (b ++ List.replicate (j + 1) 0).length (B8 (b ++ List.replicate (j + 1) 0)))); (case p => (with_reducible repeat constructor)); (case e => (rw [List.replicate_succ', ← List.append_assoc, B8_append (b ++ List.replicate j 0) [0], List.length_append (bs := [(0 : UInt8)])]; rfl)))
    (apply Tri.again (y := ⟨j + 1, u', by omega⟩); (case p => ((try dsimp only); (repeat (first | exact Pulls.nil | (apply Pulls.cons; (case a => (first | ((repeat (first | with_reducible exact Gv.Pull.head | with_reducible apply Gv.Pull.tail)); done) | (repeat (first | exact Gv.Pull.head | apply Gv.Pull.tail))))))))); (case hm => ((try dsimp only); omega)); (try dsimp only))
    (repeat (first | exact trivial | refine And.intro (by rfl) ?_))
  · have hje : j = padN b.length := by
      rw [hjl] at h
      unfold padN at hj ⊢; omega
    subst hje
    obtain ⟨B, hB⟩ : ∃ B, B = padB b := ⟨_, rfl⟩
    rw [show b ++ List.replicate (padN b.length) 0 = B by rw [hB]; rfl]
    rw [← hB]
    have hBm : B.length % 256 = 0 := by rw [hB]; exact padB_mod b
    have hBl : B.length ≤ b.length + 255 := by rw [hB, padB_length]; unfold padN; omega
    refine Tri.shut (e := 5) (size := 1) (v := u) (by (with_reducible repeat constructor)) (fun h2 ho => ?_)
    have hr2 := own_Rd ho
    obtain ⟨A, c, hu, hmc, _⟩ := hr2.slice
    subst hu
    ((with_reducible refine TriR.exit (Tri.thenE (Tri.thenE (Tri.blockE (Tri.thenN (TriR.seq (TriR.region ?_))))))); apply TriR.op; rfl; rfl; apply o_move; rfl; rfl; apply TriR.op; rfl; rfl; apply o_mul64; rfl; rfl; rfl; (omega); apply TriR.op; rfl; rfl)
    (apply o_alloc; (case hn => rfl); intro b7)
    (apply TriR.op; rfl; rfl; apply o_store; rfl; rfl; rfl; (with_reducible repeat constructor); (exact Nat.le_of_ble_eq_true rfl); refine TriR.nil (Tri.thenN (TriR.seq (TriR.seq (TriR.region ?_)))); apply TriR.op; rfl; rfl; apply o_move; rfl; rfl; apply TriR.op; rfl; rfl)
    (apply o_callR (hs := slices_Chunk A B.length c); (case hargs => (repeat first | exact evs.nil | (apply evs.cons; case a => rfl))); (case hpre => exact fun _ _ => trivial); (case hn => rfl))
    rintro r2 H2 ⟨b8, b9, rfl, rfl⟩
    (try dsimp only [List.cons_append, List.nil_append])
    (refine TriR.nil (Tri.thenN (TriR.block ?_)))
    ((with_reducible apply Tri.eqA (A := blk b7 3 _) (B := blk b7 3 [.int .i64 (addr * 4 + ((0 : Nat) : Int))])); (case p => (with_reducible repeat constructor)); (case e => (rw [show addr * 4 + ((0 : Nat) : Int) = addr * 4 by omega]; rfl)))
    refine TriR.range (α := RwS S (addr * 4) B) (β := RwE S (addr * 4) B) (γ := Unit) RwS.k
      (fun x => [blk b7 3 [.int .i64 (addr * 4 + (x.k : Int))], DSK p (S.wrs (addr * 4) (secs B x.k)).1, Ex h2, blk b3 58 [.pointer (some ⟨p, 0, none⟩)], blk b6 44 [.int .i64 0]]) ⟨0, by omega, rfl⟩ (fun _ => .ret)
      (fun y => [DSK p (S.wrs (addr * 4) (secs B (y.k + 1))).1, blk b6 44 [.int .i64 ((S.wrs (addr * 4) (secs B (y.k + 1))).2 : Int)]])
      (fun x _ => [(3, .pointer (some ⟨b3, 0, none⟩)), (6, .pointer (some ⟨b6, 0, none⟩)), (7, .pointer (some ⟨b7, 0, none⟩)), (8, .slice (A.map (·.add (x.k * 64))) 64 64)])
      (fun x _ => [blk b7 3 [.int .i64 (addr * 4 + (x.k : Int))], DSK p (S.wrs (addr * 4) (secs B x.k)).1, Ex h2, blk b3 58 [.pointer (some ⟨p, 0, none⟩)], blk b6 44 [.int .i64 0]])
      (chunk_iter A B.length c b8 b9 (by omega) ⟨hmc, by omega⟩) rfl rfl (by (repeat (first | exact Pulls.nil | (apply Pulls.cons; (case a => (first | ((repeat (first | with_reducible exact Gv.Pull.head | with_reducible apply Gv.Pull.tail)); done) | (repeat (first | exact Gv.Pull.head | apply Gv.Pull.tail)))))))) ?_ ?_ ?_ ?_ ?_ ?_
    · intro y hy
      obtain ⟨k, _, rfl⟩ := List.mem_map.1 hy
      rfl
    · intro q hq
      simp at hq
      subst hq
      rfl
    · intro l x vs hvs hq
      obtain ⟨_, rfl⟩ := chunks_of (by omega) hvs
      simp only [zipL]
      (try dsimp only [List.cons_append, List.nil_append])
      (refine TriR.region ?_; apply TriR.op; rfl; rfl; apply o_assign; rfl; rfl; refine TriR.nil (Tri.thenN ?_))
      (apply Tri.reach (y := ()); (case hL => ((try dsimp only); (repeat (first | exact trivial | refine And.intro (by rfl) ?_)))); (case p => ((try dsimp only); (repeat (first | exact Pulls.nil | (apply Pulls.cons; (case a => (first | ((repeat (first | with_reducible exact Gv.Pull.head | with_reducible apply Gv.Pull.tail)); done) | (repeat (first | exact Gv.Pull.head | apply Gv.Pull.tail))))))))))
    · intro l x vs hvs z hq
      obtain ⟨hk1, _⟩ := chunks_of (by omega) hvs
      have hxk := x.hk
      have hS' := DS.wrs_ok (secs B x.k) (addr * 4) hS
      have hlen := (DS.wrs_len (secs B x.k) S (addr * 4)).1
      rw [secs_length] at hlen
      have hst := rw_step x.ok
      (try dsimp only [List.cons_append, List.nil_append])
      (refine TriR.block (TriR.seq (TriR.seq (TriR.region ?_))); apply TriR.op; rfl; rfl; apply o_load; rfl; (with_reducible repeat constructor); rfl; rfl; apply TriR.op; rfl; rfl; apply o_load; rfl; (with_reducible repeat constructor); rfl; rfl; apply TriR.op; rfl; rfl; apply o_move; rfl; rfl; apply TriR.op; rfl; rfl)
      (apply o_callS (hs := disk_WriteD p (S.wrs (addr * 4) (secs B x.k)).1 (addr * 4 + (x.k : Int)) (.slice (A.map (·.add (x.k * 64))) 64 64) (sec B x.k) h2 (rd_part hr2 rfl hk1) hS' (by omega)); (case hargs => (repeat first | exact evs.nil | (apply evs.cons; case a => rfl))); (case p => (repeat first | with_reducible constructor | constructor)); (case hn => rfl))
      rintro r3 H3 ⟨rfl, rfl⟩
      rw [← hst]
      (try dsimp only [List.cons_append, List.nil_append])
      (apply TriR.op; rfl; rfl; apply o_assign; rfl; rfl; refine TriR.nil (Tri.thenN (TriR.seq (TriR.region ?_))); apply TriR.op; rfl; rfl; apply o_move; rfl; rfl; apply TriR.op; rfl; rfl; apply o_neq; rfl; rfl; rfl; refine TriR.nil (Tri.thenN ?_))
      by_cases hz : (S.wrs (addr * 4) (secs B (x.k + 1))).2 = 0
      · ((with_reducible apply Tri.setb 29 (false)); (case h => rfl); (case hi => (rw [hz]; rfl)))
        (apply TriR.condF; rfl; rfl; refine TriR.skip (Tri.thenN (TriR.region ?_)); apply TriR.op; rfl; rfl; apply o_load; rfl; (with_reducible repeat constructor); rfl; rfl; apply TriR.op; rfl; rfl; apply o_add64; rfl; rfl; rfl; (omega); apply TriR.op; rfl; rfl; apply o_store; rfl; rfl; rfl; (with_reducible repeat constructor); (exact Nat.le_of_ble_eq_true rfl); refine TriR.nil (Tri.blockN ?_))
        ((with_reducible apply Tri.eqA (A := blk b7 3 _) (B := blk b7 3 [.int .i64 (addr * 4 + ((x.k + 1 : Nat) : Int))])); (case p => (with_reducible repeat constructor)); (case e => (rw [show addr * 4 + ((x.k + 1 : Nat) : Int) = addr * 4 + (x.k : Int) + 1 by omega]; rfl)))
        skip
        (apply Tri.rdEnd (y := ⟨x.k + 1, by omega, hz⟩); (case hk => rfl); (case p => ((try dsimp only [List.cons_append, List.nil_append]); (repeat first | with_reducible constructor | constructor))))
      · ((with_reducible apply Tri.setb 29 (true)); (case h => rfl); (case hi => (rw [decide_eq_true]; omega)))
        (apply TriR.condT; rfl; rfl; refine TriR.seq (TriR.region ?_); apply TriR.op; rfl; rfl; apply o_move; rfl; rfl; apply TriR.op; rfl; rfl; apply o_store; rfl; rfl; rfl; (with_reducible repeat constructor); (exact Nat.le_of_ble_eq_true rfl); refine TriR.nil (Tri.thenN (TriR.ret (Tri.thenR (Tri.blockR ?_)))))
        (apply Tri.rdRet (y := ⟨x.k, by omega, x.ok, hz⟩); (case hj => rfl); (case p => ((try dsimp only [List.cons_append, List.nil_append]); (repeat (first | exact Pulls.nil | (apply Pulls.cons; (case a => (first | ((repeat (first | with_reducible exact Gv.Pull.head | with_reducible apply Gv.Pull.tail)); done) | (repeat (first | exact Gv.Pull.head | apply Gv.Pull.tail))))))))))
    · intro D y hy
      have e : y.k = B.length / 64 := by rw [hy]; simp [chunks]
      (try dsimp only [List.cons_append, List.nil_append])
      (refine Tri.blockN (Tri.thenN (TriR.seq (TriR.region ?_))); apply TriR.op; rfl; rfl; apply o_store; rfl; rfl; rfl; (with_reducible repeat constructor); (exact Nat.le_of_ble_eq_true rfl); refine TriR.nil (Tri.thenN (TriR.ret ?_)))
      (apply Tri.finM1; (case p => (with_reducible repeat constructor)); (case hr => rfl); (case h => exact ResL.cons (Res1.cell rfl (by (with_reducible repeat constructor)) rfl) (ResL.nil)); (apply fin_R (Hn := [DSK p (S.wrs (addr * 4) (secs B y.k)).1, Ex h1])); (case p => exact (by (repeat first | with_reducible constructor | constructor))); (rw [← e]; exact ⟨by rw [y.ok]; rfl, rfl⟩))
    · intro D y
      have e := rwE_all y (by omega)
      (try dsimp only [List.cons_append, List.nil_append])
      (refine TriR.ret (Tri.blockR (Tri.thenR ?_)))
      (apply Tri.finM1; (case p => (with_reducible repeat constructor)); (case hr => rfl); (case h => exact ResL.cons (Res1.cell rfl (by (with_reducible repeat constructor)) rfl) (ResL.nil)); (apply fin_R (Hn := [DSK p (S.wrs (addr * 4) (secs B (y.k + 1))).1, Ex h1])); (case p => exact (by (repeat first | with_reducible constructor | constructor))); (rw [e]; exact ⟨rfl, rfl⟩))
end Go.Proofs.Ytckdlfbbkemklaa
end
section
/- page: raw bytes from a disk. -/
namespace Go.Proofs.Ytckdlfbbkemklaa
open Go Go.RowKit Go.Gv
set_option linter.unusedVariables false
set_option linter.unusedSimpArgs false

/-- the first error of sectors that are read one behind the other -/
def rdE (S : DS) (i : Int) : Nat → Nat
  | 0 => 0
  | k + 1 => if rdE S i k ≠ 0 then rdE S i k else mayE S.off S.A.length (i + (k : Int))
theorem rdE_ok {S : DS} {i : Int} : ∀ {k : Nat}, rdE S i k = 0 → ∀ j < k, mayE S.off S.A.length (i + (j : Int)) = 0
  | 0, _, j, hj => absurd hj (by omega)
  | k + 1, h, j, hj => by
    rw [rdE] at h
    split at h
    · rename_i h'; exact absurd h h'
    · rename_i h'
      by_cases e : j = k
      · rw [e]; exact h
      · exact rdE_ok (k := k) (Classical.byContradiction h') j (by omega)
theorem rdE_mono {S : DS} {i : Int} {k : Nat} (h : rdE S i k ≠ 0) : ∀ m, rdE S i (k + m) = rdE S i k
  | 0 => rfl
  | m + 1 => by
    have ih := rdE_mono h m
    show (if rdE S i (k + m) ≠ 0 then rdE S i (k + m) else _) = _
    rw [ih, if_pos h]
theorem rdE_of {S : DS} {a : Nat} (ho : S.off = false) : ∀ k, (a + k) * 64 ≤ S.A.length → rdE S (a : Int) k = 0
  | 0, _ => rfl
  | k + 1, h => by
    rw [rdE, if_neg (by rw [rdE_of ho k (by omega)]; simp), ho]
    exact mayD_of (i := a + k) (by omega)
theorem text_step (V : List UInt8) (a k : Nat) (h : (a * 4 + k) * 64 + 64 ≤ V.length) : (V.drop (a * 256)).take (k * 64) ++ sec V (a * 4 + k) = (V.drop (a * 256)).take ((k + 1) * 64) := by
  rw [show (k + 1) * 64 = k * 64 + 64 by omega, List.take_add, sec, List.drop_drop, show (a * 4 + k) * 64 = a * 256 + k * 64 by omega]
theorem rd_cut {h : PH} {A : Option Addr} {m c k : Nat} {l : List UInt8} (hr : Rd h (.slice A m c) m (B8 l)) (hl : l.length = m) (hk : k ≤ m) : Rd h (.slice A k k) (l.take k).length (B8 (l.take k)) := by
  obtain ⟨A', c', hv, hc, h3⟩ := hr
  cases hv
  have e : (l.take k).length = k := by rw [List.length_take]; omega
  refine ⟨A, k, by rw [e], ⟨by omega, by omega⟩, fun j u hu => ?_⟩
  rw [show B8 (l.take k) = (B8 l).take k by simp [B8, List.map_take], List.getElem?_take] at hu
  split at hu
  · exact h3 j u hu
  · cases hu
set_option maxHeartbeats 16000000 in
theorem page_ReadRaw (p : Nat) (S : DS) (addr : Int) (n : Nat) (hS : S.ok) (hl : S.W.length ≤ 1000000) (hn : n ≤ 100000) (ha : -1000000 ≤ addr ∧ addr ≤ 1000000) :
    Gv.Spec Try.prog 122 #[.pointer (some ⟨p, 0, none⟩), .int .i64 addr, .int .i64 (n : Int)] [DSK p S]
    (fun r H' => (rdE S (addr * 4) ((n + 63) / 64) ≠ 0 ∧ r = .tuple #[.slice none 0 0, .int .i64 (rdE S (addr * 4) ((n + 63) / 64) : Int)] ∧ H' = [DSK p S])
      ∨ (rdE S (addr * 4) ((n + 63) / 64) = 0 ∧ ∃ A h1, r = .tuple #[.slice A n n, .int .i64 0] ∧ Rd h1 (.slice A n n) ((S.V.drop (addr.toNat * 256)).take n).length (B8 ((S.V.drop (addr.toNat * 256)).take n)) ∧ ((S.V.drop (addr.toNat * 256)).take n).length = n ∧ H' = [DSK p S, Ex h1])) := by
  refine Gv.Spec.of (fun w h0 hw => ?_)
  refine Calls.enter Try.func122 rfl rfl rfl hw ?_
  simp only [argSlots]
  (try dsimp only [List.cons_append, List.nil_append])
  have hVl := DS.V_length hS
  (refine Tri.seq (Tri.region ?_); apply Tri.op; rfl; apply o_assign; rfl; rfl; apply Tri.op; rfl; apply o_assign; rfl; rfl; refine Tri.nil (Tri.thenN (Tri.seq (Tri.seq (Tri.region ?_)))); apply Tri.op; rfl; apply o_move; rfl; rfl; apply Tri.op; rfl; apply o_lss; rfl; rfl; rfl; refine Tri.nil (Tri.thenN ?_))
  ((with_reducible apply Tri.setb 13 (false)); (case h => rfl); (case hi => (rw [decide_eq_false]; omega)))
  (apply Tri.condF; rfl; rfl; refine Tri.skip (Tri.thenN (Tri.seq (Tri.region ?_))); apply Tri.op; rfl; apply o_assign; rfl; rfl; refine Tri.nil (Tri.thenN (Tri.seq (Tri.seq (Tri.region ?_)))); apply Tri.op; rfl; apply o_move; rfl; rfl; apply Tri.op; rfl; apply o_mul64; rfl; rfl; rfl; (omega); apply Tri.op; rfl; apply o_assign; rfl; rfl; refine Tri.nil (Tri.thenN (Tri.block ?_)))
  (with_reducible apply Tri.ownNil 5 1)
  ((with_reducible apply Tri.eqA (A := own 5 1 (.slice none 0 0) 0 []) (B := own 5 1 (.slice none 0 0) (((S.V.drop (addr.toNat * 256)).take (0 * 64))).length (B8 (((S.V.drop (addr.toNat * 256)).take (0 * 64)))))); (case p => (with_reducible repeat constructor)); (case e => (rw [Nat.zero_mul, List.take_zero]; rfl)))
  ((with_reducible apply Tri.seti 9 ((addr * 4 + ((0 : Nat) : Int)))); (case h => rfl); (case hi => omega))
  (apply Tri.loop (α := Σ' (k : Nat) (u : Value), k ≤ (n + 63) / 64 ∧ rdE S (addr * 4) k = 0 ∧ ((S.V.drop (addr.toNat * 256)).take (k * 64)).length = k * 64) (m := fun x => (n + 63) / 64 - x.1) (Lx := fun x => [(0, .pointer (some ⟨p, 0, none⟩)), (2, .int .i64 (n : Int)), (8, x.2.1), (9, .int .i64 (addr * 4 + (x.1 : Int)))]) (Hx := fun x => [own 5 1 x.2.1 (((S.V.drop (addr.toNat * 256)).take (x.1 * 64))).length (B8 (((S.V.drop (addr.toNat * 256)).take (x.1 * 64)))), DSK p S, Ex h0]) (x0 := ⟨0, .slice none 0 0, Nat.zero_le _, rfl, by simp⟩); (case hL => ((try dsimp only); (repeat (first | exact trivial | refine And.intro (by rfl) ?_)))); (case hH => ((try dsimp only); apply St.all; (repeat first | with_reducible constructor | constructor)))); (rintro ⟨k, u, hk, he, hkl⟩ mx hmx; (try dsimp only at hmx ⊢))
  (refine Tri.seq (Tri.seq (Tri.region ?_)); apply Tri.op; rfl; apply o_move; rfl; rfl; apply Tri.op; rfl; apply o_lenOwn; rfl; (with_reducible repeat constructor); rfl; apply Tri.op; rfl; apply o_move; rfl; rfl; apply Tri.op; rfl; apply o_lss; rfl; rfl; rfl; refine Tri.nil (Tri.thenN ?_))
  (apply Tri.condD; (case hc => rfl); (all_goals intro h))
  · have hk' : k < (n + 63) / 64 := by rw [hkl] at h; omega
    (refine Tri.skip (Tri.thenN (Tri.seq (Tri.block (Tri.seq (Tri.region ?_))))); apply Tri.op; rfl; apply o_move; rfl; rfl; apply Tri.op; rfl; apply o_move; rfl; rfl; apply Tri.op; rfl)
    (apply o_callS (hs := disk_ReadD p S (addr * 4 + (k : Int)) hS hl); (case hargs => (repeat first | exact evs.nil | (apply evs.cons; case a => rfl))); (case p => (repeat first | with_reducible constructor | constructor)); (case hn => rfl))
    rintro r H' (⟨hm, rfl, rfl⟩ | ⟨hm, v, rfl, rfl⟩)
    · have hbad : rdE S (addr * 4) (k + 1) = mayE S.off S.A.length (addr * 4 + (k : Int)) := by rw [rdE, if_neg (by rw [he]; simp)]
      have hall : rdE S (addr * 4) ((n + 63) / 64) = mayE S.off S.A.length (addr * 4 + (k : Int)) := by
        have := rdE_mono (S := S) (i := addr * 4) (k := k + 1) (by rw [hbad]; exact hm) ((n + 63) / 64 - (k + 1))
        rw [show k + 1 + ((n + 63) / 64 - (k + 1)) = (n + 63) / 64 by omega] at this
        rw [this, hbad]
      (try dsimp only [List.cons_append, List.nil_append])
      (apply Tri.op; rfl; apply o_move; rfl; rfl; apply Tri.op; rfl; apply o_extract; rfl; rfl; rfl; apply Tri.op; rfl; apply o_extract; rfl; rfl; rfl; apply Tri.op; rfl; apply o_assign; rfl; rfl; apply Tri.op; rfl; apply o_assign; rfl; rfl; refine Tri.nil (Tri.thenN (Tri.seq (Tri.seq (Tri.region ?_)))); apply Tri.op; rfl; apply o_move; rfl; rfl; apply Tri.op; rfl; apply o_neq; rfl; rfl; rfl; refine Tri.nil (Tri.thenN ?_))
      ((with_reducible apply Tri.setb 29 (true)); (case h => rfl); (case hi => (rw [decide_eq_true]; omega)))
      (apply Tri.condT; rfl; rfl; refine Tri.seq (Tri.region ?_); apply Tri.op; rfl; apply o_move; rfl; rfl; apply Tri.op; rfl; apply o_assign; rfl; rfl; apply Tri.op; rfl; apply o_assign; rfl; rfl; refine Tri.nil (Tri.thenN (Tri.ret (Tri.thenR (Tri.blockR (Tri.thenR (Tri.thenR (Tri.blockR (Tri.thenR ?_)))))))))
      (apply Tri.fin; (case hr => rfl); (case h => exact ResL.cons (Res1.tmp rfl) (ResL.cons (Res1.tmp rfl) (ResL.nil))); (apply fin_R (Hn := [DSK p S])); (case p => exact (by (repeat first | with_reducible constructor | constructor))); exact .inl ⟨by rw [hall]; exact hm, by rw [hall]; rfl, rfl⟩)
    · obtain ⟨_, hi0, hi1⟩ := mayD_ok hm
      have ha0 : 0 ≤ addr := by
        by_cases hk0 : k = 0
        · subst hk0; omega
        · have := (mayD_ok (rdE_ok he 0 (by omega))).2.1
          omega
      have e1 : (addr * 4 + (k : Int)).toNat = addr.toNat * 4 + k := by omega
      rw [e1]
      rw [e1] at hi1
      have hstep := text_step S.V addr.toNat k (by omega)
      have hsl := sec_length (b := S.V) (j := addr.toNat * 4 + k) (by omega)
      have hok : rdE S (addr * 4) (k + 1) = 0 := by rw [rdE, if_neg (by rw [he]; simp)]; exact hm
      have hnl : ((S.V.drop (addr.toNat * 256)).take ((k + 1) * 64)).length = (k + 1) * 64 := by
        rw [List.length_take, List.length_drop]; omega
      (try dsimp only [List.cons_append, List.nil_append])
      (apply Tri.op; rfl; apply o_move; rfl; rfl; apply Tri.op; rfl; apply o_extract; rfl; rfl; rfl; apply Tri.op; rfl; apply o_extract; rfl; rfl; rfl; apply Tri.op; rfl; apply o_assign; rfl; rfl; apply Tri.op; rfl; apply o_assign; rfl; rfl; refine Tri.nil (Tri.thenN (Tri.seq (Tri.seq (Tri.region ?_)))); apply Tri.op; rfl; apply o_move; rfl; rfl; apply Tri.op; rfl; apply o_neq; rfl; rfl; rfl; refine Tri.nil (Tri.thenN ?_))
      ((with_reducible apply Tri.setb 29 (false)); (case h => rfl); (case hi => rfl))
      (apply Tri.condF; rfl; rfl; refine Tri.skip (Tri.thenN (Tri.region ?_)); apply Tri.op; rfl; apply o_move; rfl; rfl; apply Tri.op; rfl; apply o_move; rfl; rfl; apply Tri.op; rfl)
      (apply o_append; (case hx => rfl); (case hy => rfl); (case p => (with_reducible repeat constructor)); (case hr => exact rdw_own (v := v) (by (with_reducible repeat constructor))); (case hl => (rw [B8_length, hsl])); (case h1 => (intro y hy; obtain ⟨c, _, rfl⟩ := List.mem_map.1 hy; rfl)); (case hb => (rw [hkl]; omega)); (case hn => rfl))
      intro u'
      (apply Tri.op; rfl; apply o_assign; rfl; rfl; refine Tri.nil (Tri.blockN (Tri.thenN (Tri.region ?_))); apply Tri.op; rfl; apply o_move; rfl; rfl; apply Tri.op; rfl; apply o_add64; rfl; rfl; rfl; (omega); apply Tri.op; rfl; apply o_assign; rfl; rfl; refine Tri.nil (Tri.thenN ?_))
      ((with_reducible apply Tri.eqA (A := own 5 1 u' _ _) (B := own 5 1 u' (((S.V.drop (addr.toNat * 256)).take ((k + 1) * 64))).length (B8 (((S.V.drop (addr.toNat * 256)).take ((k + 1) * 64)))))); (case p => (with_reducible repeat constructor)); (case e => (rw [← hstep, B8_append, List.length_append, hsl])))
      ((with_reducible apply Tri.seti 9 ((addr * 4 + ((k + 1 : Nat) : Int)))); (case h => rfl); (case hi => omega))
      (apply Tri.again (y := ⟨k + 1, u', by omega, hok, hnl⟩); (case p => ((try dsimp only); (repeat (first | exact Pulls.nil | (apply Pulls.cons; (case a => (first | ((repeat (first | with_reducible exact Gv.Pull.head | with_reducible apply Gv.Pull.tail)); done) | (repeat (first | exact Gv.Pull.head | apply Gv.Pull.tail))))))))); (case hm => ((try dsimp only); omega)); (try dsimp only))
      (repeat (first | exact trivial | refine And.intro (by rfl) ?_))
  · have hke : k = (n + 63) / 64 := by rw [hkl] at h; omega
    refine Tri.shut (e := 5) (size := 1) (v := u) (by (with_reducible repeat constructor)) (fun h1 ho => ?_)
    have hr := own_Rd ho
    obtain ⟨A, c, hu, hmc, _⟩ := hr.slice
    subst hu
    rw [hkl] at hmc
    have hcut := rd_cut (k := n) hr rfl (by rw [hkl]; omega)
    rw [List.take_take, Nat.min_eq_left (by omega)] at hcut
    have hcl : ((S.V.drop (addr.toNat * 256)).take n).length = n := by
      rw [List.length_take] at hkl ⊢
      omega
    ((with_reducible refine Tri.exit (Tri.thenE (Tri.thenE (Tri.blockE (Tri.thenN (Tri.seq (Tri.region ?_))))))); apply Tri.op; rfl; apply o_move; rfl; rfl; apply Tri.op; rfl; apply o_move; rfl; rfl; apply Tri.op; rfl; apply o_move; rfl; rfl; apply Tri.op; rfl)
    (apply o_slice3 (lo := 0) (hi := n) (mx := n); (case hx => rfl); (case hol => first | exact fun _ _ => rfl | exact fun a ha => congrArg some (ha.eval rfl)); (case hlo => first | exact .inr ⟨rfl, rfl⟩ | exact .inl ⟨_, rfl⟩ | exact .inl ⟨_, (by congr 2; omega)⟩); (case hy => rfl); (case hz => rfl); (case hlh => omega); (case hhm => omega); (case hmc => omega); (case hn => rfl))
    ((with_reducible apply Tri.setv 37 ((.slice A n n))); (case h => rfl); (case hv => (simp only [Nat.sub_zero, Nat.zero_mul]; cases A <;> simp [Addr.add])))
    (apply Tri.op; rfl; apply o_assign; rfl; rfl; apply Tri.op; rfl; apply o_assign; rfl; rfl; refine Tri.nil (Tri.thenN (Tri.ret ?_)))
    (apply Tri.fin; (case hr => rfl); (case h => exact ResL.cons (Res1.tmp rfl) (ResL.cons (Res1.tmp rfl) (ResL.nil))); (apply fin_R (Hn := [DSK p S, Ex h1])); (case p => exact (by (repeat first | with_reducible constructor | constructor))); exact .inr ⟨by rw [← hke]; exact he, A, h1, rfl, hcut, hcl, rfl⟩)
end Go.Proofs.Ytckdlfbbkemklaa
end
section
/- The sum bit by bit: that the table's bytes and the reference's bits are one; that bursts are told. -/
namespace Go.Gv
set_option linter.unusedSimpArgs false

/-- the low bit -/
def low (n : UInt32) : Bool := n.toBitVec.getLsbD 0
def bit (b : Bool) : UInt32 := if b then 1 else 0
end Go.Gv
end
section
/- A burst of up to 32 bits tells: the sums of two texts that differ by one are not the same. -/
namespace Go.Gv
set_option linter.unusedSimpArgs false
set_option linter.unusedVariables false

/-- bits that are a word's from place k on, and zero elsewhere -/
def burst (k : Nat) (e : UInt32) (i : Nat) : Bool := decide (k ≤ i) && e.toBitVec.getLsbD (i - k)
/-- the text with the burst's first i bits turned -/
def turnBit (l : List UInt8) (p : Nat) : List UInt8 := l.set (p / 8) (l.getD (p / 8) 0 ^^^ (1 <<< UInt8.ofNat (p % 8)))
def turned (l : List UInt8) (k : Nat) (e : UInt32) : Nat → List UInt8
  | 0 => l
  | i + 1 => if e.toBitVec.getLsbD i then turnBit (turned l k e i) (k + i) else turned l k e i
end Go.Gv
end
section
/- page: what its functions compute, in plain terms. -/
namespace Go.Gv
set_option linter.unusedVariables false
set_option linter.unusedSimpArgs false

structure PG where
  k : UInt8
  a : Int
  g : Nat
  b : List UInt8
def zeroP : PG := ⟨0, 0, 0, []⟩
def knownK (k : UInt8) : Bool := decide (k.toNat = 83) || decide (k.toNat = 76) || decide (k.toNat = 73) || decide (k.toNat = 66)
def okP (p : PG) : Bool := knownK p.k && decide (0 ≤ p.a) && decide (p.a < 512) && decide (p.b.length ≤ 238)
/-- a number's bytes, the highest first -/
def bigB (n : Nat) : Nat → List UInt8
  | 0 => []
  | k + 1 => UInt8.ofNat (n / 2 ^ (8 * k)) :: bigB n k
theorem bigB_length (n : Nat) : ∀ k, (bigB n k).length = k
  | 0 => rfl
  | k + 1 => by rw [bigB, List.length_cons, bigB_length n k]
def headP (p : PG) : List UInt8 := [p.k, 0] ++ bigB p.a.toNat 2 ++ bigB p.g 8 ++ bigB p.b.length 2 ++ p.b ++ List.replicate (238 - p.b.length) 0
def le4 (s : UInt32) (i : Nat) : List UInt8 := (List.range i).map fun j => (s >>> UInt32.ofNat (8 * j)).toUInt8
def putP (p : PG) : List UInt8 := headP p ++ le4 (crcSum (headP p)) 4
theorem headP_length (p : PG) (h : p.b.length ≤ 238) : (headP p).length = 252 := by simp [headP, bigB_length]; omega
theorem le4_length (s : UInt32) (i : Nat) : (le4 s i).length = i := by simp [le4]
theorem putP_length (p : PG) (h : p.b.length ≤ 238) : (putP p).length = 256 := by rw [putP, List.length_append, headP_length p h, le4_length]
def numB (l : List UInt8) : Nat := l.foldl (fun n c => n * 256 + c.toNat) 0
theorem numB_snoc (l : List UInt8) (c : UInt8) : numB (l ++ [c]) = numB l * 256 + c.toNat := by rw [numB, List.foldl_append]; rfl
theorem numB_lt (l : List UInt8) : numB l < 256 ^ l.length := by
  have : ∀ (r : List UInt8), numB r.reverse < 256 ^ r.length := by
    intro r
    induction r with
    | nil => simp [numB]
    | cons c r ih =>
      rw [List.reverse_cons, numB_snoc, List.length_cons, Nat.pow_succ]
      have := c.toNat_lt
      omega
  have h := this l.reverse
  rwa [List.reverse_reverse, List.length_reverse] at h
theorem fold_big (n : Nat) : ∀ k m, (bigB n k).foldl (fun n c => n * 256 + c.toNat) m = m * 256 ^ k + n % 256 ^ k
  | 0, m => by simp [bigB, Nat.mod_one]
  | k + 1, m => by
    rw [bigB, List.foldl_cons, fold_big n k]
    have e : (UInt8.ofNat (n / 2 ^ (8 * k))).toNat = n / 256 ^ k % 256 := by
      rw [UInt8.toNat_ofNat', show (2 : Nat) ^ (8 * k) = 256 ^ k by rw [Nat.pow_mul]]
    rw [e, Nat.pow_succ, Nat.add_mul, Nat.mul_assoc, Nat.mul_comm 256 (256 ^ k), Nat.add_assoc, Nat.mod_mul, Nat.mul_comm (n / 256 ^ k % 256), Nat.add_comm (256 ^ k * _)]
theorem num_big (n k : Nat) : numB (bigB n k) = n % 256 ^ k := by rw [numB, fold_big]; simp
def gotP (l : List UInt8) (n : Nat) : PG := ⟨l.getD 0 0, (numB ((l.drop 2).take 2) : Int), numB ((l.drop 4).take 8), (l.drop 14).take n⟩
def lenP (l : List UInt8) : Nat := numB ((l.drop 12).take 2)
def getP (l : List UInt8) : PG × Nat := if l.length ≠ 256 then (zeroP, 4) else if 238 < lenP l then (zeroP, 3) else if okP (gotP l (lenP l)) = true ∧ putP (gotP l (lenP l)) = l then (gotP l (lenP l), 0) else (zeroP, 3)

theorem okP_spec {p : PG} (h : okP p = true) : knownK p.k = true ∧ 0 ≤ p.a ∧ p.a < 512 ∧ p.b.length ≤ 238 := by
  simp only [okP, Bool.and_eq_true, decide_eq_true_eq] at h
  exact ⟨h.1.1.1, h.1.1.2, h.1.2, h.2⟩
theorem seg {α : Type} (A B C : List α) (i n : Nat) (hA : A.length = i) (hB : B.length = n) : ((A ++ B ++ C).drop i).take n = B := by
  subst hA; subst hB
  rw [List.append_assoc, List.drop_left, List.take_left]
theorem put_len (p : PG) (h : okP p = true) : lenP (putP p) = p.b.length := by
  have hs := okP_spec h
  have e : putP p = ([p.k, 0] ++ bigB p.a.toNat 2 ++ bigB p.g 8) ++ bigB p.b.length 2 ++ (p.b ++ List.replicate (238 - p.b.length) 0 ++ le4 (crcSum (headP p)) 4) := by simp [putP, headP]
  rw [lenP, e, seg _ _ _ 12 2 (by simp [bigB_length]) (bigB_length _ _), num_big]
  exact Nat.mod_eq_of_lt (by omega)
theorem put_got (p : PG) (h : okP p = true) (hg : p.g < 18446744073709551616) : gotP (putP p) p.b.length = p := by
  have hs := okP_spec h
  have e0 : (putP p).getD 0 0 = p.k := by simp [putP, headP]
  have e1 : putP p = [p.k, 0] ++ bigB p.a.toNat 2 ++ (bigB p.g 8 ++ bigB p.b.length 2 ++ p.b ++ List.replicate (238 - p.b.length) 0 ++ le4 (crcSum (headP p)) 4) := by simp [putP, headP]
  have e2 : putP p = ([p.k, 0] ++ bigB p.a.toNat 2) ++ bigB p.g 8 ++ (bigB p.b.length 2 ++ p.b ++ List.replicate (238 - p.b.length) 0 ++ le4 (crcSum (headP p)) 4) := by simp [putP, headP]
  have e3 : putP p = ([p.k, 0] ++ bigB p.a.toNat 2 ++ bigB p.g 8 ++ bigB p.b.length 2) ++ p.b ++ (List.replicate (238 - p.b.length) 0 ++ le4 (crcSum (headP p)) 4) := by simp [putP, headP]
  have h1 : numB (((putP p).drop 2).take 2) = p.a.toNat := by
    rw [e1, seg _ _ _ 2 2 rfl (bigB_length _ _), num_big]; exact Nat.mod_eq_of_lt (by omega)
  have h2 : numB (((putP p).drop 4).take 8) = p.g := by
    rw [e2, seg _ _ _ 4 8 (by simp [bigB_length]) (bigB_length _ _), num_big]; exact Nat.mod_eq_of_lt (by omega)
  have h3 : ((putP p).drop 14).take p.b.length = p.b := by
    rw [e3, seg _ _ _ 14 p.b.length (by simp [bigB_length]) rfl]
  unfold gotP
  rw [e0, h1, h2, h3, show ((p.a.toNat : Nat) : Int) = p.a by omega]
theorem get_put (p : PG) (h : okP p = true) (hg : p.g < 18446744073709551616) : getP (putP p) = (p, 0) := by
  have hs := okP_spec h
  rw [getP, if_neg (by rw [putP_length p hs.2.2.2]; simp), put_len p h, if_neg (by omega), put_got p h hg, if_pos ⟨h, rfl⟩]

end Go.Gv
end
section
/- Noughts behind a slice: append of a make. -/
namespace Go.Gv
open Go Go.RowKit
set_option linter.unusedVariables false
set_option linter.unusedSimpArgs false

theorem zeroCells_one {z0 : Value} {zc : Value} (hz : z0.cells.toList = [zc]) (k : Nat) : Builtin.zeroCells z0.cells k = (List.replicate k zc).toArray := by
  have hz' : z0.cells = #[zc] := by rw [← Array.toArray_toList (xs := z0.cells), hz]
  unfold Builtin.zeroCells
  rw [hz']
  apply Array.ext
  · simp
  · intro i h1 h2
    have : i % 1 = 0 := Nat.mod_one i
    simp [this]

theorem appendZ_run {P : Program} {t tn e ty : TypeId} {kn kq : IntKind} {bytes : Nat} {zc : Value} [ht : TSlice P t e] [htn : TInt P tn kn] [he : TElem P e 1 bytes [zc]] {w : World} {v : Value} {m1 k : Nat} {xs : List Value} (ho : w.ownsRow 0 e 1 v m1 xs) (h1 : zc.oneCell' = true) (hb : (m1 + k) * bytes ≤ 140737488355328) :
    ∃ v' w', (Builtin.append_ #[t, tn] ty #[v, .int kq k]).run P w = .ok v' w' ∧ w.grownBy w' v.ownBlock ∧ (v'.ownBlock = v.ownBlock ∨ ∀ b, v'.ownBlock = some b → w.heap.size ≤ b) ∧ w'.ownsRow 0 e 1 v' (m1 + k) (xs ++ List.replicate k zc) := by
  obtain ⟨i, z0, hi, hz, hsz, hby, hzz, hzs, p1, p2, p4⟩ := he.get
  have hmk : (m1 + k) * 1 ≤ (m1 + k) * bytes := Nat.mul_le_mul_left _ (by omega)
  have hkb : k * bytes ≤ (m1 + k) * bytes := Nat.mul_le_mul_right _ (by omega)
  have h63 : m1 + k ≤ maxLen := by unfold maxLen; omega
  have hlen : (xs ++ List.replicate k zc).length = (m1 + k) * 1 := by rw [List.length_append, ho.1, List.length_replicate]; omega
  have same : w.grownBy w v.ownBlock := ⟨rfl, rfl, rfl, Nat.le_refl _, fun _ _ _ => rfl⟩
  have hw : IntKind.i64.wrap (k : Int) = k := by rw [IntKind.wrap_i64]; omega
  have h48i : ¬ (281474976710656 < (k : Int) * (i.bytes : Int)) := by rw [hby, ← Int.natCast_mul]; omega
  have hneg : ¬ ((k : Int) < 0) := by omega
  have hw0 : IntKind.i64.wrap 0 = 0 := by rw [IntKind.wrap_i64]; omega
  rcases ho.2 with ⟨rfl, rfl⟩ | ⟨gg, cap, cur, rfl, hb1, hb2, hb3, hb4, hb5, hb6⟩
  · have hx : xs = [] := List.eq_nil_of_length_eq_zero (by simpa using ho.1)
    subst hx
    by_cases hm0 : k = 0
    · subst hm0
      refine ⟨_, w, ?_, same, .inl rfl, by simpa using ho⟩
      simp [Builtin.append_, run_underlying ht.ok, run_underlying htn.ok, sizeOf, typeInfo, hi, asInt, asIntOf, hw0]
    · have hrun := Lib.run_append_nil_zeros (P := P) w t tn ty e i z0 kq kn ht.ok htn.ok hi hz k (by omega) (by omega) (by unfold maxLen at h63; omega) (by rw [hby]; omega)
      refine ⟨_, _, hrun, ⟨rfl, rfl, rfl, by simp, fun j hj _ => Below.heap_alloc w.drew _ j hj⟩, .inr (fun b hb => by simp [Value.ownBlock] at hb; omega), ?_⟩
      simp only [Nat.zero_add, List.nil_append]
      have := ownsRow_new (w := w) (e := e) (bytes := bytes) (m := k) (old := 0) (xs := List.replicate k zc) hzs (by simp) (by omega)
      simp only [zeroCells_one hzz] at this ⊢
      exact this
  · by_cases hroom : m1 + k ≤ cap
    · have hfit : m1 + k ≤ cur.size := by rw [hb5]; omega
      have hst := run_storeCells_at P gg (m1 * 1) e (List.replicate k zc) 0 cur w hb2 (by simp; omega) (by intro u hu; rw [(List.mem_replicate.1 hu).2]; exact h1)
      simp only [Nat.add_zero] at hst
      have hrun : (Builtin.append_ #[t, tn] ty #[.slice (some ⟨gg, 0, none⟩) m1 cap, .int kq k]).run P w = .ok (.slice (some ⟨gg, 0, none⟩) (m1 + k) cap) (w.setRow gg (cur.toList.take (m1 * 1) ++ List.replicate k zc ++ cur.toList.drop (m1 * 1 + (List.replicate k zc).length)).toArray) := by
        by_cases hm0 : k = 0
        · subst hm0
          simp only [List.replicate_zero] at hst ⊢
          have hroom' : m1 ≤ cap := hroom
          simp [Builtin.append_, run_underlying ht.ok, run_underlying htn.ok, sizeOf, typeInfo, hi, hsz, asInt, asIntOf, hw0, hroom', zeroValue, hz, Addr.add_lit]
          simp at hst
          rw [hst]; simp
        · have hns : ¬ (k * i.size = 0) := Nat.mul_ne_zero hm0 (by omega)
          rw [hsz] at hns
          simp [Builtin.append_, run_underlying ht.ok, run_underlying htn.ok, sizeOf, typeInfo, hi, hsz, asInt, asIntOf, hw, hroom, zeroValue, hz, Addr.add_lit, hm0, hneg, h48i, zeroCells_one hzz]
          simp at hst
          rw [hst]; simp
      refine ⟨_, _, hrun, ⟨rfl, rfl, rfl, by simp, fun j _ hk => setRow_other w gg j _ (fun e => hk (by simp [Value.ownBlock, e]))⟩, .inl rfl, hlen, .inr ⟨gg, cap, _, rfl, Nat.zero_le _, setRow_heap w gg cur _ e _ hb2, hroom, hb4, ?_, ?_⟩⟩
      · simp only [List.size_toArray, List.length_append, List.length_take, List.length_drop, Array.length_toList, List.length_replicate]
        omega
      · rw [hb6, ← hlen]
        exact List.take_left
    · have holds : ∀ j u, xs[j]? = some u → w.cell? ((⟨gg, 0, none⟩ : Addr).add j) = some u := ho.cells (g := gg) rfl
      have hfo := run_firstCells_some (P := P) w.drew i.size m1 ⟨gg, 0, none⟩ m1 cap xs (by rw [hsz]; exact ho.1) (by simpa using holds)
      have hrun := Lib.run_append_grow_zeros (P := P) w t tn ty e i z0 kq kn ht.ok htn.ok hi hz (some ⟨gg, 0, none⟩) m1 cap xs hfo k (by omega) (by omega) (by omega) (by unfold maxLen at h63; omega) (by rw [hby]; omega) (growslice_fits (by omega) (by rw [hby]; exact hb))
      refine ⟨_, _, hrun, ⟨rfl, rfl, rfl, by simp, fun j hj _ => Below.heap_alloc w.drew _ j hj⟩, .inr (fun b hb => by simp [Value.ownBlock] at hb; omega), ?_⟩
      have := ownsRow_new (w := w) (e := e) (bytes := bytes) (old := cap) hzs hlen h63
      simp only [zeroCells_one hzz] at this ⊢
      have e : xs.toArray ++ (List.replicate k zc).toArray = (xs ++ List.replicate k zc).toArray := by apply Array.ext'; simp only [Array.toList_append]
      rw [e]; exact this

section
variable {P : Program} {w0 : World} {n : NT} {L : Slots} {H H' : List Atom} {Q : Exit → Act → World → Prop} {K : Act → World → Prop} {d : Nat}
variable {ty : TypeId} {pos : String} {aft : Array Edge} {g : Option (Nat × Bool)}
theorem o_appendZ {t tn e : TypeId} {kn kq : IntKind} {bytes : Nat} {zc : Value} [TSlice P t e] [TInt P tn kn] [TElem P e 1 bytes [zc]] {s x : Operand} {v : Value} {m1 k : Nat} {i : Int} {xs : List Value} (hx : ev L s = some v) (hy : ev L x = some (.int kq i)) (hi : i = (k : Int)) (p : Pull H (own e 1 v m1 xs) H') (h1 : zc.oneCell' = true) (hb : (m1 + k) * bytes ≤ 140737488355328) (hn : Nat.blt d n = true)
    (kk : ∀ v', Tri w0 K n ((d, v') :: L) (own e 1 v' (m1 + k) (xs ++ List.replicate k zc) :: H')) :
    Tri w0 (OpG P ⟨some d, .call { callee := .builtin .append, args := #[s, x], argTypes := #[t, tn] }, ty, pos, aft, g⟩ K Q) n L H :=
  Tri.valW rfl hn (fun a w ha hw => by
    obtain ⟨s', hA⟩ := (hw.pull p).2.head
    subst hi
    obtain ⟨v', w', q1, q2, q3, q4⟩ := appendZ_run (P := P) (t := t) (tn := tn) (ty := ty) (kq := kq) (k := k) (own_row hA) h1 hb
    refine ⟨v', w', ?_, fun a' ha' => kk v' a' w' ha' (St.grown (hw.pull p) q4 q3 q2)⟩
    simp [execOp, resolve, invoke, builtin, ha.eval hx, ha.eval hy, q1])
end
end Go.Gv
end
section
/- page: what its small functions answer. -/
namespace Go.Proofs.Ytckdlfbbkemklaa
open Go Go.RowKit Go.Gv
set_option linter.unusedVariables false
set_option linter.unusedSimpArgs false

def pgL (p : PG) (v : Value) : List Value := [.int .u8 (p.k.toNat : Int), .int .i64 p.a, .int .u64 (p.g : Int), v]
def pgV (p : PG) (v : Value) : Value := .agg (pgL p v).toArray
theorem bytes_eq' (a b : List UInt8) : decide ((⟨a.toArray⟩ : ByteArray) = ⟨b.toArray⟩) = decide (a = b) := by
  apply decide_eq_decide.2
  constructor
  · intro h
    have := congrArg ByteArray.data h
    simpa using this
  · rintro rfl; rfl
set_option maxHeartbeats 1000000 in
theorem page_known (k : UInt8) : SpecR Try.prog 117 #[.int .u8 (k.toNat : Int)] (fun _ => True) (fun r H' => r = .bool (knownK k) ∧ H' = []) := by
  refine SpecR.of (fun w _ => ?_)
  refine Calls.enter Try.func117 rfl rfl rfl (St.rebase w) ?_
  simp only [argSlots]
  (refine Tri.seq (Tri.region ?_); apply Tri.op; rfl; apply o_assign; rfl; rfl; refine Tri.nil (Tri.thenN (Tri.seq (Tri.seq (Tri.region ?_)))); apply Tri.op; rfl; apply o_move; rfl; rfl; refine Tri.nil (Tri.thenN (Tri.block (Tri.seq (Tri.seq (Tri.region ?_))))); apply Tri.op; rfl; apply o_eql; rfl; rfl; rfl; apply Tri.op; rfl; apply o_assign; rfl; rfl; refine Tri.nil (Tri.thenN ?_))
  ((with_reducible apply Tri.casesB 4); (case h => rfl); (all_goals intro h1))
  · have g1 := of_decide_eq_true h1
    (apply Tri.condT; rfl; rfl; refine Tri.skip (Tri.thenN ?_); apply Tri.condT; rfl; rfl; refine Tri.seq (Tri.region ?_); apply Tri.op; rfl; apply o_assign; rfl; rfl; refine Tri.nil (Tri.thenN (Tri.ret (Tri.blockR (Tri.thenR ?_)))))
    (apply Tri.fin; (case hr => rfl); (case h => exact ResL.cons (Res1.tmp rfl) (ResL.nil)); (apply fin_R (Hn := [])); (case p => exact (by (repeat first | with_reducible constructor | constructor))); exact ⟨by simp only [tupled]; (rw [knownK, decide_eq_true (show k.toNat = 83 by omega)]; rfl), rfl⟩)
  · have g1 := of_decide_eq_false h1
    (apply Tri.condF; rfl; rfl; refine Tri.seq (Tri.region ?_); apply Tri.op; rfl; apply o_eql; rfl; rfl; rfl; apply Tri.op; rfl; apply o_assign; rfl; rfl; refine Tri.nil (Tri.thenN ?_))
    ((with_reducible apply Tri.casesB 4); (case h => rfl); (all_goals intro h2))
    · have g2 := of_decide_eq_true h2
      (apply Tri.condT; rfl; rfl; refine Tri.skip (Tri.thenN ?_); apply Tri.condT; rfl; rfl; refine Tri.seq (Tri.region ?_); apply Tri.op; rfl; apply o_assign; rfl; rfl; refine Tri.nil (Tri.thenN (Tri.ret (Tri.blockR (Tri.thenR ?_)))))
      (apply Tri.fin; (case hr => rfl); (case h => exact ResL.cons (Res1.tmp rfl) (ResL.nil)); (apply fin_R (Hn := [])); (case p => exact (by (repeat first | with_reducible constructor | constructor))); exact ⟨by simp only [tupled]; (rw [knownK, decide_eq_true (show k.toNat = 76 by omega), Bool.or_true]; rfl), rfl⟩)
    · have g2 := of_decide_eq_false h2
      (apply Tri.condF; rfl; rfl; refine Tri.seq (Tri.region ?_); apply Tri.op; rfl; apply o_eql; rfl; rfl; rfl; apply Tri.op; rfl; apply o_assign; rfl; rfl; refine Tri.nil (Tri.thenN ?_))
      ((with_reducible apply Tri.casesB 4); (case h => rfl); (all_goals intro h3))
      · have g3 := of_decide_eq_true h3
        (apply Tri.condT; rfl; rfl; refine Tri.skip (Tri.thenN ?_); apply Tri.condT; rfl; rfl; refine Tri.seq (Tri.region ?_); apply Tri.op; rfl; apply o_assign; rfl; rfl; refine Tri.nil (Tri.thenN (Tri.ret (Tri.blockR (Tri.thenR ?_)))))
        (apply Tri.fin; (case hr => rfl); (case h => exact ResL.cons (Res1.tmp rfl) (ResL.nil)); (apply fin_R (Hn := [])); (case p => exact (by (repeat first | with_reducible constructor | constructor))); exact ⟨by simp only [tupled]; (rw [knownK, decide_eq_true (show k.toNat = 73 by omega), Bool.or_true]; rfl), rfl⟩)
      · have g3 := of_decide_eq_false h3
        (apply Tri.condF; rfl; rfl; refine Tri.region ?_; apply Tri.op; rfl; apply o_eql; rfl; rfl; rfl; apply Tri.op; rfl; apply o_assign; rfl; rfl; refine Tri.nil (Tri.thenN ?_))
        ((with_reducible apply Tri.casesB 4); (case h => rfl); (all_goals intro h4))
        · have g4 := of_decide_eq_true h4
          (apply Tri.condT; rfl; rfl; refine Tri.seq (Tri.region ?_); apply Tri.op; rfl; apply o_assign; rfl; rfl; refine Tri.nil (Tri.thenN (Tri.ret (Tri.blockR (Tri.thenR ?_)))))
          (apply Tri.fin; (case hr => rfl); (case h => exact ResL.cons (Res1.tmp rfl) (ResL.nil)); (apply fin_R (Hn := [])); (case p => exact (by (repeat first | with_reducible constructor | constructor))); exact ⟨by simp only [tupled]; (rw [knownK, decide_eq_true (show k.toNat = 66 by omega), Bool.or_true]), rfl⟩)
        · have g4 := of_decide_eq_false h4
          (apply Tri.condF; rfl; rfl; refine Tri.skip (Tri.blockN (Tri.thenN (Tri.seq (Tri.region ?_)))); apply Tri.op; rfl; apply o_assign; rfl; rfl; refine Tri.nil (Tri.thenN (Tri.ret ?_)))
          (apply Tri.fin; (case hr => rfl); (case h => exact ResL.cons (Res1.tmp rfl) (ResL.nil)); (apply fin_R (Hn := [])); (case p => exact (by (repeat first | with_reducible constructor | constructor))); exact ⟨by simp only [tupled]; (rw [knownK, decide_eq_false (show ¬ k.toNat = 83 by omega), decide_eq_false (show ¬ k.toNat = 76 by omega), decide_eq_false (show ¬ k.toNat = 73 by omega), decide_eq_false (show ¬ k.toNat = 66 by omega)]; rfl), rfl⟩)

theorem pgL_len (p : PG) (v : Value) : (pgL p v).length = 4 := rfl
theorem pgL_one (p : PG) (A : Option Addr) (m c : Nat) : ∀ y ∈ pgL p (.slice A m c), y.oneCell' = true := by
  intro y hy; simp [pgL] at hy; rcases hy with rfl | rfl | rfl | rfl <;> rfl
theorem byte_shr (n k : Nat) (hk : k < 8) : ((n : Int) / 2 ^ min (8 * (k : Int)).toNat IntKind.u64.bits) % 256 = ((UInt8.ofNat (n / 2 ^ (8 * k))).toNat : Int) := by
  have e : min (8 * (k : Int)).toNat IntKind.u64.bits = 8 * k := by
    show min (8 * (k : Int)).toNat 64 = 8 * k
    omega
  rw [e, UInt8.toNat_ofNat', Int.natCast_emod, Int.natCast_ediv, Int.natCast_pow]; rfl
set_option maxHeartbeats 1000000 in
theorem page_big (v : Value) (l : List UInt8) (n size : Nat) (hs : size ≤ 8) (hl : l.length ≤ 1000000) : Gv.Spec Try.prog 118 #[v, .int .u64 (n : Int), .int .i64 (size : Int)] [own 5 1 v l.length (B8 l)]
    (fun r H' => H' = [own 5 1 r (l ++ bigB n size).length (B8 (l ++ bigB n size))]) := by
  refine Gv.Spec.of (fun w h0 hw => ?_)
  refine Calls.enter Try.func118 rfl rfl rfl hw ?_
  simp only [argSlots]
  (try dsimp only [List.cons_append, List.nil_append])
  (refine Tri.seq (Tri.region ?_); apply Tri.op; rfl; apply o_assign; rfl; rfl; refine Tri.nil (Tri.thenN (Tri.seq (Tri.seq (Tri.region ?_)))); apply Tri.op; rfl; apply o_move; rfl; rfl; apply Tri.op; rfl; apply o_sub64; rfl; rfl; rfl; (omega); apply Tri.op; rfl; apply o_assign; rfl; rfl; refine Tri.nil (Tri.thenN (Tri.block ?_)))
  (apply Tri.loop (α := Σ' (k : Nat) (c : List UInt8) (u : Value), k ≤ size ∧ c ++ bigB n k = l ++ bigB n size) (m := fun x => x.1) (Lx := fun x => [(0, x.2.2.1), (1, .int .u64 (n : Int)), (7, .int .i64 ((x.1 : Int) - 1))]) (Hx := fun x => [own 5 1 x.2.2.1 x.2.1.length (B8 x.2.1), Ex h0]) (x0 := ⟨size, l, v, Nat.le_refl _, rfl⟩); (case hL => ((try dsimp only); (repeat (first | exact trivial | refine And.intro (by rfl) ?_)))); (case hH => ((try dsimp only); apply St.all; (repeat first | with_reducible constructor | constructor)))); (rintro ⟨k, c, u, hk, hc⟩ mx hmx; (try dsimp only at hmx ⊢))
  have hcl : c.length + k = l.length + size := by
    have := congrArg List.length hc
    simpa [bigB_length] using this
  (refine Tri.seq (Tri.seq (Tri.region ?_)); apply Tri.op; rfl; apply o_move; rfl; rfl; apply Tri.op; rfl; apply o_geq; rfl; rfl; rfl; refine Tri.nil (Tri.thenN ?_))
  (apply Tri.condD; (case hc => rfl); (all_goals intro h))
  · obtain ⟨j, rfl⟩ : ∃ j, k = j + 1 := ⟨k - 1, by omega⟩
    (refine Tri.skip (Tri.thenN (Tri.seq (Tri.block (Tri.region ?_)))); apply Tri.op; rfl; apply o_move; rfl; rfl; apply Tri.op; rfl; apply o_move; rfl; rfl; apply Tri.op; rfl; apply o_move; rfl; rfl; apply Tri.op; rfl; apply o_mul64; rfl; rfl; rfl; (omega); apply Tri.op; rfl; apply o_shr; rfl; rfl; rfl; (omega); apply Tri.op; rfl; apply o_conv8; rfl; rfl; apply Tri.op; rfl)
    ((with_reducible apply Tri.seti 19 (((UInt8.ofNat (n / 2 ^ (8 * j))).toNat : Int))); (case h => rfl); (case hi => (rw [show ((j + 1 : Nat) : Int) - 1 = (j : Int) by omega]; exact byte_shr n j (by omega))))
    (apply o_litSl (ys := [.int .u8 ((UInt8.ofNat (n / 2 ^ (8 * j))).toNat : Int)]); (case hp => (repeat first | exact pev.nil | (apply pev.cons; case a => rfl))); (case hm => rfl); (case hf => rfl); (case hn => rfl); intro vl)
    (apply Tri.op; rfl)
    (apply o_append; (case hx => rfl); (case hy => rfl); (case p => (with_reducible repeat constructor)); (case hr => exact rdw_own (by (with_reducible repeat constructor))); (case hl => rfl); (case h1 => (intro y hy; simp at hy; subst hy; rfl)); (case hb => omega); (case hn => rfl))
    intro u'
    (apply Tri.op; rfl; apply o_assign; rfl; rfl; refine Tri.nil (Tri.blockN (Tri.thenN (Tri.region ?_))); apply Tri.op; rfl; apply o_move; rfl; rfl; apply Tri.op; rfl; apply o_sub64; rfl; rfl; rfl; (omega); apply Tri.op; rfl; apply o_assign; rfl; rfl; refine Tri.nil (Tri.thenN ?_))
    ((with_reducible apply Tri.eqA (A := own 5 1 u' _ _) (B := own 5 1 u' (c ++ [UInt8.ofNat (n / 2 ^ (8 * j))]).length (B8 (c ++ [UInt8.ofNat (n / 2 ^ (8 * j))])))); (case p => (with_reducible repeat constructor)); (case e => (rw [B8_append, List.length_append]; rfl)))
    ((with_reducible apply Tri.seti 7 (((j : Int) - 1))); (case h => rfl); (case hi => omega))
    ((with_reducible apply Tri.again (y := ⟨j, c ++ [UInt8.ofNat (n / 2 ^ (8 * j))], u', by omega, by rw [← hc, bigB]; simp⟩)); (case p => ((try dsimp only); (repeat (first | exact Pulls.nil | (apply Pulls.cons; (case a => (first | ((repeat (first | with_reducible exact Gv.Pull.head | with_reducible apply Gv.Pull.tail)); done) | (repeat (first | exact Gv.Pull.head | apply Gv.Pull.tail))))))))); (case hm => ((try dsimp only); omega)); (try dsimp only))
    (repeat (first | exact trivial | refine And.intro (by rfl) ?_))
  · obtain rfl : k = 0 := by omega
    have hce : c = l ++ bigB n size := by rw [← hc]; simp [bigB]
    ((with_reducible refine Tri.exit (Tri.thenE (Tri.thenE (Tri.blockE (Tri.thenN (Tri.seq (Tri.region ?_))))))); apply Tri.op; rfl; apply o_move; rfl; rfl; apply Tri.op; rfl; apply o_assign; rfl; rfl; refine Tri.nil (Tri.thenN (Tri.ret ?_)))
    ((with_reducible apply Tri.eqA (A := own 5 1 u _ _) (B := own 5 1 u (l ++ bigB n size).length (B8 (l ++ bigB n size)))); (case p => (with_reducible repeat constructor)); (case e => (rw [hce])))
    (apply Tri.fin; (case hr => rfl); (case h => (repeat (first | exact ResL.nil | (apply ResL.cons; (case a => (first | exact Res1.tmp rfl | (apply Res1.cell; rfl; (with_reducible repeat constructor); rfl) | (apply Res1.agg; rfl; (with_reducible repeat constructor); rfl; rfl))))))); (apply fin_R (Hn := [own 5 1 u (l ++ bigB n size).length (B8 (l ++ bigB n size))])); (case p => (repeat first | with_reducible constructor | constructor)))
    rfl

theorem or8_64 (m : Nat) (y : UInt8) (hm : m * 256 + 256 ≤ 18446744073709551616) : Go.bits .or .u64 (IntKind.u64.wrap ((m : Int) * 2 ^ min (Int.toNat 8) IntKind.u64.bits)) (y.toNat : Int) = ((m * 256 + y.toNat : Nat) : Int) := by
  have hy := y.toNat_lt
  have e1 : IntKind.u64.wrap ((m : Int) * 2 ^ min (Int.toNat 8) IntKind.u64.bits) = ((m * 256 : Nat) : Int) := by
    rw [show (2 : Int) ^ min (Int.toNat 8) IntKind.u64.bits = 256 from rfl, wrap_u64 (by omega)]; omega
  rw [e1]
  have e2 : ((BitVec.ofInt 64 ((m * 256 : Nat) : Int) ||| BitVec.ofInt 64 ((y.toNat : Nat) : Int)).toNat) = m * 256 + y.toNat := by
    rw [ofInt_nat, ofInt_nat, BitVec.toNat_or, BitVec.toNat_ofNat, BitVec.toNat_ofNat, Nat.mod_eq_of_lt (by omega), Nat.mod_eq_of_lt (by omega)]
    have := Nat.shiftLeft_add_eq_or_of_lt (i := 8) (b := y.toNat) hy m
    rw [Nat.shiftLeft_eq] at this
    exact this.symm
  show IntKind.u64.wrap (((BitVec.ofInt 64 ((m * 256 : Nat) : Int) ||| BitVec.ofInt 64 ((y.toNat : Nat) : Int)).toNat : Nat) : Int) = _
  rw [e2, wrap_u64 (by omega)]
theorem numB_take (l : List UInt8) (k : Nat) (hk : k < l.length) : numB (l.take (k + 1)) = numB (l.take k) * 256 + (l[k]'hk).toNat := by
  rw [List.take_succ_eq_append_getElem hk, numB_snoc]
set_option maxHeartbeats 1000000 in
theorem page_number (v : Value) (l : List UInt8) (hl : l.length ≤ 8) : SpecR Try.prog 141 #[v] (fun w => RdW w v l.length (B8 l)) (fun r H' => r = .int .u64 (numB l : Int) ∧ H' = []) := by
  refine SpecR.of (fun w hr => ?_)
  refine Calls.enter Try.func141 rfl rfl rfl (St.rebase w) ?_
  simp only [argSlots]
  (refine Tri.seq (Tri.region ?_); apply Tri.op; rfl; apply o_assign; rfl; rfl; refine Tri.nil (Tri.thenN (Tri.seq (Tri.region ?_))); apply Tri.op; rfl; apply o_assign; rfl; rfl; refine Tri.nil (Tri.thenN (Tri.seq (Tri.seq (Tri.region ?_)))); apply Tri.op; rfl; apply o_move; rfl; rfl; apply Tri.op; rfl)
  (apply o_lenRd (hr := hr); (case hx => rfl); (case hn => rfl))
  (apply Tri.op; rfl; apply o_move; rfl; rfl; refine Tri.nil (Tri.thenN (Tri.block ?_)))
  (apply Tri.loop (α := { k : Nat // k ≤ l.length }) (m := fun x => l.length - x.1) (Lx := fun x => [(3, .int .u64 (numB (l.take x.1) : Int)), (6, v), (7, .int .i64 (l.length : Int)), (8, .int .i64 (x.1 : Int))]) (Hx := fun x => [Ex (hp w)]) (x0 := ⟨0, Nat.zero_le _⟩); (case hL => ((try dsimp only); (repeat (first | exact trivial | refine And.intro (by rfl) ?_)))); (case hH => ((try dsimp only); apply St.all; (repeat first | with_reducible constructor | constructor)))); (rintro ⟨k, hk⟩ mx hmx; (try dsimp only at hmx ⊢))
  (refine Tri.seq (Tri.region ?_); apply Tri.op; rfl; apply o_lss; rfl; rfl; rfl; refine Tri.nil (Tri.thenN (Tri.seq ?_)))
  (apply Tri.condD; (case hc => rfl); (all_goals intro h))
  · have hk' : k < l.length := by omega
    have hb := numB_lt (l.take k)
    have hb2 : numB (l.take k) < 256 ^ 7 := Nat.lt_of_lt_of_le hb (Nat.pow_le_pow_right (by omega) (by rw [List.length_take]; omega))
    (refine Tri.skip (Tri.thenN (Tri.seq (Tri.block (Tri.seq (Tri.region ?_))))); apply Tri.op; rfl)
    (apply o_ixRd (hr := hr) (j := k); (case hx => rfl); (case hy => rfl); (case hj => rfl); (case hlt => exact hk'); (case hl => (rw [B8_length]; omega)); (case hn => rfl))
    (apply Tri.op; rfl)
    (apply o_loadRd (hr := hr); (case hx => rfl); (case p => (with_reducible repeat constructor)); (case hv => exact (by rw [Nat.mul_one]; exact B8_get l k hk')); (case hn => rfl))
    (apply Tri.op; rfl; apply o_assign; rfl; rfl; refine Tri.nil (Tri.thenN (Tri.region ?_)); apply Tri.op; rfl; apply o_move; rfl; rfl; apply Tri.op; rfl; apply o_shl; rfl; rfl; rfl; (omega); apply Tri.op; rfl; apply o_move; rfl; rfl; apply Tri.op; rfl; apply o_conv64; rfl; rfl; apply Tri.op; rfl; apply o_or; rfl; rfl; rfl; apply Tri.op; rfl; apply o_assign; rfl; rfl; refine Tri.nil (Tri.blockN (Tri.thenN (Tri.region ?_))); apply Tri.op; rfl; apply o_add64; rfl; rfl; rfl; (omega); apply Tri.op; rfl; apply o_move; rfl; rfl; refine Tri.nil (Tri.thenN ?_))
    have hy : (((l[k]'hk').toNat : Nat) : Int) % 18446744073709551616 = ((l[k]'hk').toNat : Int) := by have := (l[k]'hk').toNat_lt; omega
    have hor := or8_64 (numB (l.take k)) (l[k]'hk') (by omega)
    ((with_reducible apply Tri.seti 3 ((numB (l.take (k + 1)) : Int))); (case h => rfl); (case hi => (rw [numB_take l k hk', hy]; exact hor)))
    (apply Tri.again (y := ⟨k + 1, by omega⟩); (case p => ((try dsimp only); (repeat (first | exact Pulls.nil | (apply Pulls.cons; (case a => (first | ((repeat (first | with_reducible exact Gv.Pull.head | with_reducible apply Gv.Pull.tail)); done) | (repeat (first | exact Gv.Pull.head | apply Gv.Pull.tail))))))))); (case hm => ((try dsimp only); omega)); (try dsimp only))
    (repeat (first | exact trivial | refine And.intro (by rfl) ?_))
  · have hke : k = l.length := by omega
    ((with_reducible refine Tri.exit (Tri.thenE (Tri.thenE (Tri.blockE (Tri.thenN (Tri.seq (Tri.region ?_))))))); apply Tri.op; rfl; apply o_move; rfl; rfl; apply Tri.op; rfl; apply o_assign; rfl; rfl; refine Tri.nil (Tri.thenN (Tri.ret ?_)))
    (apply Tri.fin; (case hr => rfl); (case h => exact ResL.cons (Res1.tmp rfl) (ResL.nil)); (apply fin_R (Hn := [])); (case p => exact (by (repeat first | with_reducible constructor | constructor))); exact ⟨by simp only [tupled]; (rw [hke, List.take_length]), rfl⟩)

end Go.Proofs.Ytckdlfbbkemklaa
end
section
/- page: Put. -/
namespace Go.Proofs.Ytckdlfbbkemklaa
open Go Go.RowKit Go.Gv
set_option linter.unusedVariables false
set_option linter.unusedSimpArgs false

set_option maxHeartbeats 1000000 in
theorem page_Put_no (p : PG) (v : Value) (h : okP p = false) : SpecR Try.prog 92 #[tabV, pgV p v] (fun w => RdW w v p.b.length (B8 p.b)) (fun r H' => r = .tuple #[.slice none 0 0, .int .i64 1] ∧ H' = []) := by
  refine SpecR.of (fun w hr => ?_)
  have hlen := hr.le
  refine Calls.enter Try.func92 rfl rfl rfl (St.rebase w) ?_
  simp only [argSlots]
  (refine Tri.seq (Tri.region ?_); apply Tri.op; rfl)
  (first | (apply o_boxA; (case hx => rfl); (case hn => rfl); intro b2) | (apply o_box1; (case hx => rfl); (case h1 => rfl); (case hn => rfl); intro b2))
  (apply Tri.op; rfl)
  (first | (apply o_boxA; (case hx => rfl); (case hn => rfl); intro b3) | (apply o_box1; (case hx => rfl); (case h1 => rfl); (case hn => rfl); intro b3))
  (apply Tri.op; rfl; apply o_assign; rfl; rfl; apply Tri.op; rfl; apply o_assign; rfl; rfl; refine Tri.nil (Tri.thenN (Tri.seq (Tri.seq (Tri.region ?_)))); apply Tri.op; rfl; apply o_fieldAddr; rfl; rfl; apply Tri.op; rfl; apply o_load; rfl; (with_reducible repeat constructor); rfl; rfl; apply Tri.op; rfl)
  (apply o_callV (hs := page_known p.k); (case hargs => (repeat first | exact evs.nil | (apply evs.cons; case a => rfl))); (case hpre => exact fun _ _ => trivial); (case hn => rfl))
  (apply Tri.op; rfl; apply o_not; rfl; rfl; apply Tri.op; rfl; apply o_move; rfl; rfl)
  ((with_reducible apply Tri.casesB 13); (case h => rfl); (all_goals intro h1))
  · ((iterate 3 apply Tri.opNo (c := true); (iterate 6 rfl)); apply Tri.op; rfl; apply o_pickT; (iterate 4 rfl); apply Tri.op; rfl; apply o_move; rfl; rfl; (iterate 3 apply Tri.opNo (c := true); (iterate 6 rfl)); apply Tri.op; rfl; apply o_pickT; (iterate 4 rfl); apply Tri.op; rfl; apply o_move; rfl; rfl; (iterate 4 apply Tri.opNo (c := true); (iterate 6 rfl)); apply Tri.op; rfl; apply o_pickT; (iterate 4 rfl); refine Tri.nil (Tri.thenN ?_); apply Tri.condT; rfl; rfl; refine Tri.seq (Tri.region ?_); apply Tri.op; rfl; apply o_assign; rfl; rfl; apply Tri.op; rfl; apply o_assign; rfl; rfl; refine Tri.nil (Tri.thenN (Tri.ret (Tri.thenR ?_))))
    (apply Tri.fin; (case hr => rfl); (case h => exact ResL.cons (Res1.tmp rfl) (ResL.cons (Res1.tmp rfl) (ResL.nil))); (apply fin_R (Hn := [])); (case p => exact (by (repeat first | with_reducible constructor | constructor))); exact ⟨by simp only [tupled]; done, rfl⟩)
  · (apply Tri.opYes; rfl; rfl; rfl; apply o_fieldAddr; rfl; rfl; apply Tri.opYes; rfl; rfl; rfl; apply o_load; rfl; (with_reducible repeat constructor); rfl; rfl; apply Tri.opYes; rfl; rfl; rfl; apply o_lss; rfl; rfl; rfl; apply Tri.op; rfl; apply o_pickF; (iterate 4 rfl); apply Tri.op; rfl; apply o_move; rfl; rfl)
    ((with_reducible apply Tri.casesB 18); (case h => rfl); (all_goals intro h2))
    · ((iterate 3 apply Tri.opNo (c := true); (iterate 6 rfl)); apply Tri.op; rfl; apply o_pickT; (iterate 4 rfl); apply Tri.op; rfl; apply o_move; rfl; rfl; (iterate 4 apply Tri.opNo (c := true); (iterate 6 rfl)); apply Tri.op; rfl; apply o_pickT; (iterate 4 rfl); refine Tri.nil (Tri.thenN ?_); apply Tri.condT; rfl; rfl; refine Tri.seq (Tri.region ?_); apply Tri.op; rfl; apply o_assign; rfl; rfl; apply Tri.op; rfl; apply o_assign; rfl; rfl; refine Tri.nil (Tri.thenN (Tri.ret (Tri.thenR ?_))))
      (apply Tri.fin; (case hr => rfl); (case h => exact ResL.cons (Res1.tmp rfl) (ResL.cons (Res1.tmp rfl) (ResL.nil))); (apply fin_R (Hn := [])); (case p => exact (by (repeat first | with_reducible constructor | constructor))); exact ⟨by simp only [tupled]; done, rfl⟩)
    · have g2 := of_decide_eq_false h2
      (apply Tri.opYes; rfl; rfl; rfl; apply o_fieldAddr; rfl; rfl; apply Tri.opYes; rfl; rfl; rfl; apply o_load; rfl; (with_reducible repeat constructor); rfl; rfl; apply Tri.opYes; rfl; rfl; rfl; apply o_geq; rfl; rfl; rfl; apply Tri.op; rfl; apply o_pickF; (iterate 4 rfl); apply Tri.op; rfl; apply o_move; rfl; rfl)
      ((with_reducible apply Tri.casesB 23); (case h => rfl); (all_goals intro h3))
      · ((iterate 4 apply Tri.opNo (c := true); (iterate 6 rfl)); apply Tri.op; rfl; apply o_pickT; (iterate 4 rfl); refine Tri.nil (Tri.thenN ?_); apply Tri.condT; rfl; rfl; refine Tri.seq (Tri.region ?_); apply Tri.op; rfl; apply o_assign; rfl; rfl; apply Tri.op; rfl; apply o_assign; rfl; rfl; refine Tri.nil (Tri.thenN (Tri.ret (Tri.thenR ?_))))
        (apply Tri.fin; (case hr => rfl); (case h => exact ResL.cons (Res1.tmp rfl) (ResL.cons (Res1.tmp rfl) (ResL.nil))); (apply fin_R (Hn := [])); (case p => exact (by (repeat first | with_reducible constructor | constructor))); exact ⟨by simp only [tupled]; done, rfl⟩)
      · have g3 := of_decide_eq_false h3
        (apply Tri.opYes; rfl; rfl; rfl; apply o_fieldAddr; rfl; rfl; apply Tri.opYes; rfl; rfl; rfl; apply o_load; rfl; (with_reducible repeat constructor); rfl; rfl; apply Tri.opYes; rfl; rfl; rfl)
        (apply o_lenRd (hr := hr); (case hx => rfl); (case hn => rfl))
        (apply Tri.opYes; rfl; rfl; rfl; apply o_gtr; rfl; rfl; rfl; apply Tri.op; rfl; apply o_pickF; (iterate 4 rfl); refine Tri.nil (Tri.thenN ?_))
        (apply Tri.condD; (case hc => rfl); (all_goals intro h4))
        · (refine Tri.seq (Tri.region ?_); apply Tri.op; rfl; apply o_assign; rfl; rfl; apply Tri.op; rfl; apply o_assign; rfl; rfl; refine Tri.nil (Tri.thenN (Tri.ret (Tri.thenR ?_))))
          (apply Tri.fin; (case hr => rfl); (case h => exact ResL.cons (Res1.tmp rfl) (ResL.cons (Res1.tmp rfl) (ResL.nil))); (apply fin_R (Hn := [])); (case p => exact (by (repeat first | with_reducible constructor | constructor))); exact ⟨by simp only [tupled]; done, rfl⟩)
        · exfalso
          have hk : knownK p.k = true := by simpa using h1
          have : okP p = true := by
            rw [okP, hk, decide_eq_true (show 0 ≤ p.a by omega), decide_eq_true (show p.a < 512 by omega), decide_eq_true (show p.b.length ≤ 238 by omega)]; rfl
          rw [this] at h; cases h

theorem own_list {t : TypeId} {v : Value} {n : Nat} {cs : List Value} {l : List UInt8} (h1 : n = l.length) (h2 : cs = B8 l) : own t 1 v n cs = own t 1 v l.length (B8 l) := by rw [h1, h2]
theorem le4_next (s : UInt32) (j : Nat) (hj : j < 4) : ((s.toNat : Int) / 2 ^ min (8 * (j : Int)).toNat IntKind.u32.bits) % 256 = (((s >>> UInt32.ofNat (8 * j)).toUInt8).toNat : Int) := by
  have := shr32 s (8 * j) (by omega) (8 * (j : Int)) (by omega)
  rw [this, ← wrapu8, low8]
theorem le4_succ (s : UInt32) (j : Nat) : le4 s (j + 1) = le4 s j ++ [(s >>> UInt32.ofNat (8 * j)).toUInt8] := by rw [le4, List.range_succ, List.map_append]; rfl
set_option maxHeartbeats 4000000 in
theorem page_Put (p : PG) (v : Value) (h : okP p = true) (hg : p.g < 18446744073709551616) : SpecR Try.prog 92 #[tabV, pgV p v] (fun w => RdW w v p.b.length (B8 p.b)) (fun r H' => ∃ u, r = .tuple #[u, .int .i64 0] ∧ H' = [own 5 1 u (putP p).length (B8 (putP p))]) := by
  refine SpecR.of (fun w hr => ?_)
  have hlen := hr.le
  obtain ⟨hk, ha0, ha1, hbl⟩ := okP_spec h
  refine Calls.enter Try.func92 rfl rfl rfl (St.rebase w) ?_
  simp only [argSlots]
  (refine Tri.seq (Tri.region ?_); apply Tri.op; rfl)
  (first | (apply o_boxA; (case hx => rfl); (case hn => rfl); intro b2) | (apply o_box1; (case hx => rfl); (case h1 => rfl); (case hn => rfl); intro b2))
  (apply Tri.op; rfl)
  (first | (apply o_boxA; (case hx => rfl); (case hn => rfl); intro b3) | (apply o_box1; (case hx => rfl); (case h1 => rfl); (case hn => rfl); intro b3))
  (apply Tri.op; rfl; apply o_assign; rfl; rfl; apply Tri.op; rfl; apply o_assign; rfl; rfl; refine Tri.nil (Tri.thenN (Tri.seq (Tri.seq (Tri.region ?_)))); apply Tri.op; rfl; apply o_fieldAddr; rfl; rfl; apply Tri.op; rfl; apply o_load; rfl; (with_reducible repeat constructor); rfl; rfl; apply Tri.op; rfl)
  (apply o_callV (hs := page_known p.k); (case hargs => (repeat first | exact evs.nil | (apply evs.cons; case a => rfl))); (case hpre => exact fun _ _ => trivial); (case hn => rfl))
  (apply Tri.op; rfl; apply o_not; rfl; rfl; apply Tri.op; rfl; apply o_move; rfl; rfl)
  ((with_reducible apply Tri.setb 13 (false)); (case h => rfl); (case hi => (rw [hk]; rfl)))
  (apply Tri.opYes; rfl; rfl; rfl; apply o_fieldAddr; rfl; rfl; apply Tri.opYes; rfl; rfl; rfl; apply o_load; rfl; (with_reducible repeat constructor); rfl; rfl; apply Tri.opYes; rfl; rfl; rfl; apply o_lss; rfl; rfl; rfl; apply Tri.op; rfl; apply o_pickF; (iterate 4 rfl); apply Tri.op; rfl; apply o_move; rfl; rfl)
  ((with_reducible apply Tri.setb 18 (false)); (case h => rfl); (case hi => exact decide_eq_false (by omega)))
  (apply Tri.opYes; rfl; rfl; rfl; apply o_fieldAddr; rfl; rfl; apply Tri.opYes; rfl; rfl; rfl; apply o_load; rfl; (with_reducible repeat constructor); rfl; rfl; apply Tri.opYes; rfl; rfl; rfl; apply o_geq; rfl; rfl; rfl; apply Tri.op; rfl; apply o_pickF; (iterate 4 rfl); apply Tri.op; rfl; apply o_move; rfl; rfl)
  ((with_reducible apply Tri.setb 23 (false)); (case h => rfl); (case hi => exact decide_eq_false (by omega)))
  (apply Tri.opYes; rfl; rfl; rfl; apply o_fieldAddr; rfl; rfl; apply Tri.opYes; rfl; rfl; rfl; apply o_load; rfl; (with_reducible repeat constructor); rfl; rfl; apply Tri.opYes; rfl; rfl; rfl)
  (apply o_lenRd (hr := hr); (case hx => rfl); (case hn => rfl))
  (apply Tri.opYes; rfl; rfl; rfl; apply o_gtr; rfl; rfl; rfl; apply Tri.op; rfl; apply o_pickF; (iterate 4 rfl); refine Tri.nil (Tri.thenN ?_))
  ((with_reducible apply Tri.setb 28 (false)); (case h => rfl); (case hi => exact decide_eq_false (by omega)))
  (apply Tri.condF; rfl; rfl; refine Tri.skip (Tri.thenN (Tri.seq (Tri.region ?_))); apply Tri.op; rfl; apply o_fieldAddr; rfl; rfl; apply Tri.op; rfl; apply o_load; rfl; (with_reducible repeat constructor); rfl; rfl; apply Tri.op; rfl)
  (apply o_litSl (ys := [.int .u8 (p.k.toNat : Int), .int .u8 0]); (case hp => (repeat first | exact pev.nil | (apply pev.cons; case a => rfl))); (case hm => rfl); (case hf => rfl); (case hn => rfl); intro v31)
  ((with_reducible apply Tri.eqA (A := own 5 1 v31 _ _) (B := own 5 1 v31 [p.k, 0].length (B8 [p.k, 0]))); (case p => (with_reducible repeat constructor)); (case e => rfl))
  (apply Tri.op; rfl; apply o_fieldAddr; rfl; rfl; apply Tri.op; rfl; apply o_load; rfl; (with_reducible repeat constructor); rfl; rfl; apply Tri.op; rfl; apply o_convI; rfl; rfl; (first | decide | (exact wrap_i64 (by omega)) | (exact wrap_u8 (by omega)) | (exact wrap_u16 (by omega)) | (exact wrap_u32 (by omega)) | (exact wrap_u64 (by omega))); apply Tri.op; rfl)
  ((with_reducible apply Tri.seti 34 ((p.a.toNat : Int))); (case h => rfl); (case hi => omega))
  (apply o_callS (hs := page_big v31 [p.k, 0] p.a.toNat 2 (by omega) (by simp)); (case hargs => (repeat first | exact evs.nil | (apply evs.cons; case a => rfl))); (case p => (repeat first | with_reducible constructor | constructor)); (case hn => rfl))
  rintro v6 H1 rfl
  obtain ⟨c1, hc1⟩ : ∃ c1, c1 = [p.k, 0] ++ bigB p.a.toNat 2 := ⟨_, rfl⟩
  have hl1 : c1.length = 4 := by rw [hc1]; rfl
  rw [← hc1]
  (try dsimp only [List.cons_append, List.nil_append])
  (apply Tri.op; rfl; apply o_assign; rfl; rfl; refine Tri.nil (Tri.thenN (Tri.seq ?_)))
  ((first | with_reducible apply Tri.mix [blk b3 135 (pgL p v)] | (apply TriR.mix [blk b3 135 (pgL p v)]; (case hnd => rfl))); (case p => (repeat first | with_reducible constructor | constructor)); (dsimp only [List.length]))
  ((first | (apply TriM.q 0; rfl; rfl) | (apply TriM.qYes 0; rfl; rfl; rfl; with_reducible rfl)); kernel_rfl; rfl; rfl; (intro F K hK; apply o_move; rfl; rfl; exact hK); (first | (apply TriM.q 1; rfl; rfl) | (apply TriM.qYes 1; rfl; rfl; rfl; with_reducible rfl)); kernel_rfl; rfl; rfl; (intro F K hK; apply o_fieldAddr; rfl; rfl; exact hK); (first | (apply TriM.q 2; rfl; rfl) | (apply TriM.qYes 2; rfl; rfl; rfl; with_reducible rfl)); kernel_rfl; rfl; rfl; (intro F K hK; (try dsimp only [List.cons_append, List.nil_append]); apply o_load; rfl; (with_reducible repeat constructor); rfl; rfl; exact hK); (first | (apply TriM.q 4; rfl; rfl) | (apply TriM.qYes 4; rfl; rfl; rfl; with_reducible rfl)); kernel_rfl; rfl; rfl; (intro F K hK; apply o_fieldAddr; rfl; rfl; exact hK); (first | (apply TriM.q 5; rfl; rfl) | (apply TriM.qYes 5; rfl; rfl; rfl; with_reducible rfl)); kernel_rfl; rfl; rfl; (intro F K hK; (try dsimp only [List.cons_append, List.nil_append]); apply o_load; rfl; (with_reducible repeat constructor); rfl; rfl; exact hK))
  ((first | (apply TriM.q 6; (case ho => rfl); (case hg => rfl)) | (apply TriM.qYes 6; (case ho => rfl); (case hg => rfl); (case hyl => rfl); (case hb => with_reducible rfl))); (case hB => kernel_rfl); (case hd => rfl); (case hn => rfl); (case h => (intro F K hK; (try dsimp only [List.cons_append, List.nil_append]); (apply o_lenRd (hr := hr); (case hx => rfl); (case hn => rfl)); exact hK)))
  ((first | (apply TriM.q 7; rfl; rfl) | (apply TriM.qYes 7; rfl; rfl; rfl; with_reducible rfl)); kernel_rfl; rfl; rfl; (intro F K hK; apply o_convI; rfl; rfl; (first | decide | (exact wrap_i64 (by omega)) | (exact wrap_u8 (by omega)) | (exact wrap_u16 (by omega)) | (exact wrap_u32 (by omega)) | (exact wrap_u64 (by omega))); exact hK))
  (apply TriM.a 3; (case ho => rfl); (case hg => rfl); (case hr => kernel_rfl); (try dsimp only [List.cons_append, List.nil_append]))
  (apply o_callS (hs := page_big v6 c1 p.g 8 (by omega) (by omega)); (case hargs => (repeat first | exact evs.nil | (apply evs.cons; case a => rfl))); (case p => (repeat first | with_reducible constructor | constructor)); (case hn => rfl))
  rintro v7 H2 rfl
  obtain ⟨c2, hc2⟩ : ∃ c2, c2 = c1 ++ bigB p.g 8 := ⟨_, rfl⟩
  have hl2 : c2.length = 12 := by rw [hc2, List.length_append, hl1, bigB_length]
  rw [← hc2]
  (try dsimp only [List.cons_append, List.nil_append])
  (apply TriM.back; (case p => (repeat first | with_reducible constructor | constructor)))
  (apply TriM.a 8; (case ho => rfl); (case hg => rfl); (case hr => kernel_rfl); (try dsimp only [List.cons_append, List.nil_append]))
  (apply o_callS (hs := page_big v7 c2 p.b.length 2 (by omega) (by omega)); (case hargs => (repeat first | exact evs.nil | (apply evs.cons; case a => rfl))); (case p => (repeat first | with_reducible constructor | constructor)); (case hn => rfl))
  rintro v8 H3 rfl
  obtain ⟨c3, hc3⟩ : ∃ c3, c3 = c2 ++ bigB p.b.length 2 := ⟨_, rfl⟩
  have hl3 : c3.length = 14 := by rw [hc3, List.length_append, hl2, bigB_length]
  rw [← hc3]
  (try dsimp only [List.cons_append, List.nil_append])
  (apply TriM.back; (case p => (repeat first | with_reducible constructor | constructor)))
  ((first | (apply TriM.q 9; rfl; rfl) | (apply TriM.qYes 9; rfl; rfl; rfl; with_reducible rfl)); kernel_rfl; rfl; rfl; (intro F K hK; apply o_assign; rfl; rfl; exact hK))
  (apply TriM.nil; (case hr => kernel_rfl); (try dsimp only [List.cons_append, List.nil_append]))
  (refine Tri.thenN (Tri.seq (Tri.region ?_)); apply Tri.op; rfl; apply o_move; rfl; rfl; apply Tri.op; rfl; apply o_fieldAddr; rfl; rfl; apply Tri.op; rfl; apply o_load; rfl; (with_reducible repeat constructor); rfl; rfl; apply Tri.op; rfl)
  (apply o_append; (case hx => rfl); (case hy => rfl); (case p => (with_reducible repeat constructor)); (case hr => exact rdw_ex (by (with_reducible repeat constructor)) hr); (case hl => exact B8_len1 p.b); (case h1 => exact B8_one p.b); (case hb => omega); (case hn => rfl))
  intro v9
  ((with_reducible apply Tri.eqA (A := own 5 1 v9 _ _) (B := own 5 1 v9 (c3 ++ p.b).length (B8 (c3 ++ p.b)))); (case p => (with_reducible repeat constructor)); (case e => (rw [B8_append, List.length_append])))
  have hl4 : (c3 ++ p.b).length = 14 + p.b.length := by rw [List.length_append, hl3]
  (apply Tri.op; rfl; apply o_assign; rfl; rfl; refine Tri.nil (Tri.thenN (Tri.seq (Tri.region ?_))); apply Tri.op; rfl; apply o_move; rfl; rfl; apply Tri.op; rfl; apply o_move; rfl; rfl; apply Tri.op; rfl; apply o_lenOwn; rfl; (with_reducible repeat constructor); rfl; apply Tri.op; rfl; apply o_sub64; rfl; rfl; rfl; (omega); apply Tri.op; rfl)
  ((with_reducible apply Tri.seti 52 (((238 - p.b.length : Nat) : Int))); (case h => rfl); (case hi => (rw [hl4]; omega)))
  (apply o_appendZ (k := 238 - p.b.length); (case hx => rfl); (case hy => rfl); (case hi => rfl); (case p => (with_reducible repeat constructor)); (case h1 => rfl); (case hb => (rw [hl4]; omega)); (case hn => rfl))
  intro v10
  have hh : headP p = c3 ++ p.b ++ List.replicate (238 - p.b.length) 0 := by rw [hc3, hc2, hc1]; rfl
  have hhl := headP_length p hbl
  ((with_reducible apply Tri.eqA (A := own 5 1 v10 _ _) (B := own 5 1 v10 (headP p).length (B8 (headP p)))); (case p => (with_reducible repeat constructor)); (case e => exact own_list (by rw [hhl, hl4]; omega) (by rw [hh, B8_append (c3 ++ p.b)]; congr 1; rw [B8, List.map_replicate]; rfl)))
  (apply Tri.op; rfl; apply o_assign; rfl; rfl; refine Tri.nil (Tri.thenN (Tri.seq (Tri.region ?_))); apply Tri.op; rfl)
  (apply o_loadAll; (case hx => rfl); (case p => (with_reducible repeat constructor)); (case hl => exact tabL_length); (case hn => rfl))
  (apply Tri.op; rfl; apply o_move; rfl; rfl; apply Tri.op; rfl)
  (apply o_callV (hs := crc_Sum v10 (headP p)); (case hargs => (repeat first | exact evs.nil | (apply evs.cons; case a => rfl))); (case hpre => exact rdw_own (by (with_reducible repeat constructor))); (case hn => rfl))
  obtain ⟨s, hs⟩ : ∃ s, s = crcSum (headP p) := ⟨_, rfl⟩
  simp only [← hs]
  (apply Tri.op; rfl; apply o_assign; rfl; rfl; refine Tri.nil (Tri.thenN (Tri.seq (Tri.seq (Tri.region ?_)))); apply Tri.op; rfl; apply o_move; rfl; rfl; refine Tri.nil (Tri.thenN (Tri.block ?_)))
  ((with_reducible apply Tri.eqA (A := own 5 1 v10 _ _) (B := own 5 1 v10 (headP p ++ le4 s 0).length (B8 (headP p ++ le4 s 0)))); (case p => (with_reducible repeat constructor)); (case e => (rw [le4, List.range_zero, List.map_nil, List.append_nil])))
  (apply Tri.loop (α := Σ' (i : Nat) (u : Value), i ≤ 4) (m := fun x => 4 - x.1) (Lx := fun x => [(6, x.2.1), (7, .int .u32 (s.toNat : Int)), (57, .int .i64 (x.1 : Int))]) (Hx := fun x => [own 5 1 x.2.1 (headP p ++ le4 s x.1).length (B8 (headP p ++ le4 s x.1)), Ex (hp w)]) (x0 := ⟨0, v10, Nat.zero_le _⟩); (case hL => ((try dsimp only); (repeat (first | exact trivial | refine And.intro (by rfl) ?_)))); (case hH => ((try dsimp only); apply St.all; (repeat first | with_reducible constructor | constructor)))); (rintro ⟨i, u, hi⟩ mx hmx; (try dsimp only at hmx ⊢))
  have hll : (headP p ++ le4 s i).length = 252 + i := by rw [List.length_append, hhl, le4_length]
  (refine Tri.seq (Tri.region ?_); apply Tri.op; rfl; apply o_lss; rfl; rfl; rfl; refine Tri.nil (Tri.thenN (Tri.seq ?_)))
  (apply Tri.condD; (case hc => rfl); (all_goals intro hc))
  · have hi4 : i < 4 := by omega
    (refine Tri.skip (Tri.thenN (Tri.seq (Tri.block (Tri.seq (Tri.region ?_))))); apply Tri.op; rfl; apply o_move; rfl; rfl; apply Tri.op; rfl; apply o_assign; rfl; rfl; refine Tri.nil (Tri.thenN (Tri.region ?_)); apply Tri.op; rfl; apply o_move; rfl; rfl; apply Tri.op; rfl; apply o_move; rfl; rfl; apply Tri.op; rfl; apply o_move; rfl; rfl; apply Tri.op; rfl; apply o_mul64; rfl; rfl; rfl; (omega); apply Tri.op; rfl; apply o_shr; rfl; rfl; rfl; (omega); apply Tri.op; rfl; apply o_conv8; rfl; rfl; apply Tri.op; rfl)
    ((with_reducible apply Tri.seti 65 ((((s >>> UInt32.ofNat (8 * i)).toUInt8).toNat : Int))); (case h => rfl); (case hi => exact le4_next s i hi4))
    (apply o_litSl (ys := [.int .u8 (((s >>> UInt32.ofNat (8 * i)).toUInt8).toNat : Int)]); (case hp => (repeat first | exact pev.nil | (apply pev.cons; case a => rfl))); (case hm => rfl); (case hf => rfl); (case hn => rfl); intro vl)
    (apply Tri.op; rfl)
    (apply o_append; (case hx => rfl); (case hy => rfl); (case p => (with_reducible repeat constructor)); (case hr => exact rdw_own (by (with_reducible repeat constructor))); (case hl => rfl); (case h1 => (intro y hy; simp at hy; subst hy; rfl)); (case hb => omega); (case hn => rfl))
    intro u'
    ((with_reducible apply Tri.eqA (A := own 5 1 u' _ _) (B := own 5 1 u' (headP p ++ le4 s (i + 1)).length (B8 (headP p ++ le4 s (i + 1))))); (case p => (with_reducible repeat constructor)); (case e => exact own_list (by rw [hll, List.length_append, hhl, le4_length]; omega) (by rw [le4_succ, ← List.append_assoc, B8_append (headP p ++ le4 s i)]; rfl)))
    (apply Tri.op; rfl; apply o_assign; rfl; rfl; refine Tri.nil (Tri.blockN (Tri.thenN (Tri.region ?_))); apply Tri.op; rfl; apply o_add64; rfl; rfl; rfl; (omega); apply Tri.op; rfl; apply o_move; rfl; rfl; refine Tri.nil (Tri.thenN ?_))
    (apply Tri.again (y := ⟨i + 1, u', by omega⟩); (case p => ((try dsimp only); (repeat (first | exact Pulls.nil | (apply Pulls.cons; (case a => (first | ((repeat (first | with_reducible exact Gv.Pull.head | with_reducible apply Gv.Pull.tail)); done) | (repeat (first | exact Gv.Pull.head | apply Gv.Pull.tail))))))))); (case hm => ((try dsimp only); omega)); (try dsimp only))
    (repeat (first | exact trivial | refine And.intro (by rfl) ?_))
  · obtain rfl : i = 4 := by omega
    ((with_reducible refine Tri.exit (Tri.thenE (Tri.thenE (Tri.blockE (Tri.thenN (Tri.seq (Tri.region ?_))))))); apply Tri.op; rfl; apply o_move; rfl; rfl; apply Tri.op; rfl; apply o_assign; rfl; rfl; apply Tri.op; rfl; apply o_assign; rfl; rfl; refine Tri.nil (Tri.thenN (Tri.ret ?_)))
    ((with_reducible apply Tri.eqA (A := own 5 1 u _ _) (B := own 5 1 u (putP p).length (B8 (putP p)))); (case p => (with_reducible repeat constructor)); (case e => (rw [putP, ← hs])))
    (apply Tri.fin; (case hr => rfl); (case h => (repeat (first | exact ResL.nil | (apply ResL.cons; (case a => (first | exact Res1.tmp rfl | (apply Res1.cell; rfl; (with_reducible repeat constructor); rfl) | (apply Res1.agg; rfl; (with_reducible repeat constructor); rfl; rfl))))))); (apply fin_R (Hn := [own 5 1 u (putP p).length (B8 (putP p))])); (case p => (repeat first | with_reducible constructor | constructor)))
    exact ⟨u, rfl, rfl⟩
end Go.Proofs.Ytckdlfbbkemklaa
end
section
/- page: Get. -/
namespace Go.Proofs.Ytckdlfbbkemklaa
open Go Go.RowKit Go.Gv
set_option linter.unusedVariables false
set_option linter.unusedSimpArgs false

set_option maxHeartbeats 400000 in
theorem bytes_Equal' (u v : Value) (a b : List UInt8) : SpecR Try.prog 90 #[u, v] (fun w => RdW w u a.length (B8 a) ∧ RdW w v b.length (B8 b)) (fun r H' => r = .bool (decide (a = b)) ∧ H' = []) := by
  refine SpecR.of (fun w hh => ?_)
  refine Calls.enter Try.func90 rfl rfl rfl (St.rebase w) ?_
  simp only [argSlots]
  (refine Tri.seq (Tri.region ?_); apply Tri.op; rfl; apply o_assign; rfl; rfl; refine Tri.nil (Tri.thenN (Tri.seq (Tri.region ?_))); apply Tri.op; rfl; apply o_move; rfl; rfl; apply Tri.op; rfl)
  (apply o_bytesStr (l := a); (case he => exact Try.underlying5); (case hx => rfl); (case hr => exact rdw_ex (by (with_reducible repeat constructor)) hh.1); (case hn => rfl))
  (apply Tri.op; rfl; apply o_move; rfl; rfl; apply Tri.op; rfl)
  (apply o_bytesStr (l := b); (case he => exact Try.underlying5); (case hx => rfl); (case hr => exact rdw_ex (by (with_reducible repeat constructor)) hh.2); (case hn => rfl))
  (apply Tri.op; rfl; apply o_eqlS; rfl; rfl; rfl; apply Tri.op; rfl; apply o_assign; rfl; rfl; refine Tri.nil (Tri.thenN (Tri.ret ?_)))
  (apply Tri.fin; (case hr => rfl); (case h => exact ResL.cons (Res1.tmp rfl) (ResL.nil)); (apply fin_R (Hn := [])); (case p => exact (by (repeat first | with_reducible constructor | constructor))); exact ⟨by simp only [tupled]; (rw [bytes_eq']), rfl⟩)
theorem sub_rd {h : PH} {v : Value} {l : List UInt8} (hr : Rd h v l.length (B8 l)) (lo hi : Nat) (h1 : lo ≤ hi) (h2 : hi ≤ l.length) : Rd h (subv v 1 lo hi) ((l.drop lo).take (hi - lo)).length (B8 ((l.drop lo).take (hi - lo))) := by
  have := hr.subv (size := 1) h1 h2
  rw [B8_sub] at this
  rw [show ((l.drop lo).take (hi - lo)).length = hi - lo by rw [List.length_take, List.length_drop]; omega]
  exact this
theorem get_or (l : List UInt8) (i : Nat) (h : i < l.length) : (B8 l)[i]? = some (.int .u8 ((l.getD i 0).toNat : Int)) := by
  rw [B8_get l i h, List.getD_eq_getElem?_getD, List.getElem?_eq_getElem h]; rfl
set_option maxHeartbeats 4000000 in
theorem page_Get (v : Value) (l : List UInt8) : SpecR Try.prog 123 #[tabV, v] (fun w => RdW w v l.length (B8 l)) (fun r H' => ∃ A c, r = .tuple #[pgV (getP l).1 (.slice A (getP l).1.b.length c), .int .i64 ((getP l).2 : Int)] ∧ H' = [own 5 1 (.slice A (getP l).1.b.length c) (getP l).1.b.length (B8 (getP l).1.b)]) := by
  refine SpecR.of (fun w hr => ?_)
  have hlen := hr.le
  refine Calls.enter Try.func123 rfl rfl rfl (St.rebase w) ?_
  simp only [argSlots]
  (refine Tri.seq (Tri.region ?_); apply Tri.op; rfl)
  (first | (apply o_boxA; (case hx => rfl); (case hn => rfl); intro b2) | (apply o_box1; (case hx => rfl); (case h1 => rfl); (case hn => rfl); intro b2))
  (apply Tri.op; rfl)
  (apply o_alloc; (case hn => rfl); intro b4)
  (apply Tri.op; rfl; apply o_assign; rfl; rfl; refine Tri.nil (Tri.thenN (Tri.seq (Tri.seq (Tri.region ?_)))); apply Tri.op; rfl; apply o_move; rfl; rfl; apply Tri.op; rfl)
  (apply o_lenRd (hr := hr); (case hx => rfl); (case hn => rfl))
  (apply Tri.op; rfl; apply o_neq; rfl; rfl; rfl; refine Tri.nil (Tri.thenN ?_))
  (apply Tri.condD; (case hc => rfl); (all_goals intro h1))
  · have hg : getP l = (zeroP, 4) := by rw [getP, if_pos (by omega)]
    (refine Tri.seq (Tri.region ?_); apply Tri.op; rfl; apply o_build0; rfl; apply Tri.op; rfl)
    (apply o_storeAll (ys := pgL zeroP (.slice none 0 0)); (case hx => rfl); (case hy => rfl); (case p => (with_reducible repeat constructor)); (case hl => rfl); (case hc => rfl); (case h1 => exact pgL_one zeroP none 0 0))
    (apply Tri.op; rfl; apply o_assign; rfl; rfl; refine Tri.nil (Tri.thenN (Tri.ret (Tri.thenR ?_))))
    (with_reducible apply Tri.ownNil 5 1)
    rw [hg]
    (apply Tri.fin; (case hr => rfl); (case h => exact ResL.cons ((Res1.agg rfl (by (with_reducible repeat constructor)) (by rw [List.drop_zero]; exact List.take_of_length_le (Nat.le_of_eq (pgL_len zeroP (.slice none 0 0)))) (pgL_len zeroP (.slice none 0 0)))) (ResL.cons (Res1.tmp rfl) (ResL.nil))); (apply fin_R (Hn := [own 5 1 (.slice none 0 0) 0 []])); (case p => exact (by (repeat first | with_reducible constructor | constructor))); exact ⟨none, 0, rfl, rfl⟩)
  · have hl : l.length = 256 := by omega
    have e12 : ((l.drop 12).take (14 - 12)).length = 2 := by rw [List.length_take, List.length_drop]; omega
    have hn : lenP l < 65536 := by
      have := numB_lt ((l.drop 12).take 2)
      rw [e12] at this
      exact this
    (refine Tri.skip (Tri.thenN (Tri.seq (Tri.region ?_))); apply Tri.op; rfl; apply o_move; rfl; rfl; apply Tri.op; rfl)
    (apply o_slice (lo := 12) (hi := 14); (case hx => rfl); (case hr => exact rdw_ex (by (with_reducible repeat constructor)) hr); (case hol => first | exact fun _ _ => rfl | exact fun a ha => congrArg some (ha.eval rfl)); (case hoh => first | exact fun _ _ => rfl | exact fun a ha => congrArg some (ha.eval rfl)); (case hlo => first | exact .inr ⟨rfl, rfl⟩ | exact .inl ⟨_, rfl⟩ | exact .inl ⟨_, (by congr 2; omega)⟩); (case hhi => first | exact .inr ⟨rfl, rfl⟩ | exact .inl ⟨_, rfl⟩ | exact .inl ⟨_, (by congr 2; omega)⟩); (case hlh => omega); (case hhm => omega); (case hn => rfl))
    (apply Tri.op; rfl)
    (apply o_callV (hs := page_number (subv v 1 12 14) ((l.drop 12).take (14 - 12)) (by omega)); (case hargs => (repeat first | exact evs.nil | (apply evs.cons; case a => rfl))); (case hpre => exact rdw_ex (by (with_reducible repeat constructor)) (sub_rd hr 12 14 (by omega) (by omega))); (case hn => rfl))
    ((with_reducible apply Tri.setv 16 ((.int .u64 (lenP l : Int)))); (case h => rfl); (case hv => rfl))
    (apply Tri.op; rfl; apply o_convI; rfl; rfl; (first | decide | (exact wrap_i64 (by omega)) | (exact wrap_u8 (by omega)) | (exact wrap_u16 (by omega)) | (exact wrap_u32 (by omega)) | (exact wrap_u64 (by omega))); apply Tri.op; rfl; apply o_assign; rfl; rfl; refine Tri.nil (Tri.thenN (Tri.seq (Tri.seq (Tri.region ?_)))); apply Tri.op; rfl; apply o_move; rfl; rfl; apply Tri.op; rfl; apply o_gtr; rfl; rfl; rfl; refine Tri.nil (Tri.thenN ?_))
    (apply Tri.condD; (case hc => rfl); (all_goals intro h2))
    · have hg : getP l = (zeroP, 3) := by rw [getP, if_neg (by omega), if_pos (by omega)]
      (refine Tri.seq (Tri.region ?_); apply Tri.op; rfl; apply o_build0; rfl; apply Tri.op; rfl)
      (apply o_storeAll (ys := pgL zeroP (.slice none 0 0)); (case hx => rfl); (case hy => rfl); (case p => (with_reducible repeat constructor)); (case hl => rfl); (case hc => rfl); (case h1 => exact pgL_one zeroP none 0 0))
      (apply Tri.op; rfl; apply o_assign; rfl; rfl; refine Tri.nil (Tri.thenN (Tri.ret (Tri.thenR ?_))))
      (with_reducible apply Tri.ownNil 5 1)
      rw [hg]
      (apply Tri.fin; (case hr => rfl); (case h => exact ResL.cons ((Res1.agg rfl (by (with_reducible repeat constructor)) (by rw [List.drop_zero]; exact List.take_of_length_le (Nat.le_of_eq (pgL_len zeroP (.slice none 0 0)))) (pgL_len zeroP (.slice none 0 0)))) (ResL.cons (Res1.tmp rfl) (ResL.nil))); (apply fin_R (Hn := [own 5 1 (.slice none 0 0) 0 []])); (case p => exact (by (repeat first | with_reducible constructor | constructor))); exact ⟨none, 0, rfl, rfl⟩)
    · have hn8 : lenP l ≤ 238 := by omega
      have e24 : ((l.drop 2).take (4 - 2)).length = 2 := by rw [List.length_take, List.length_drop]; omega
      have e412 : ((l.drop 4).take (12 - 4)).length = 8 := by rw [List.length_take, List.length_drop]; omega
      have ebl : ((l.drop 14).take (14 + lenP l - 14)).length = lenP l := by rw [List.length_take, List.length_drop]; omega
      have ebb : (gotP l (lenP l)).b = (l.drop 14).take (14 + lenP l - 14) := by rw [show 14 + lenP l - 14 = lenP l by omega]; rfl
      have hb24 := numB_lt ((l.drop 2).take (4 - 2))
      rw [e24] at hb24
      (refine Tri.skip (Tri.thenN ?_))
      (apply Tri.seqMeet (α := Nat × Option Addr × Nat) (Lx := fun x => [(1, v), (2, .pointer (some ⟨b2, 0, none⟩)), (4, .pointer (some ⟨b4, 0, none⟩)), (7, .pointer (some ⟨x.1, 0, none⟩))]) (Hx := fun x => [blk b2 63 tabL, blk b4 135 [.int .u8 0, .int .i64 0, .int .u64 0, .slice none 0 0], blk x.1 135 (pgL (gotP l (lenP l)) (.slice x.2.1 (gotP l (lenP l)).b.length x.2.2)), own 5 1 (.slice x.2.1 (gotP l (lenP l)).b.length x.2.2) (gotP l (lenP l)).b.length (B8 (gotP l (lenP l)).b), Ex (hp w)]); rotate_left; (rintro ⟨b7, Ac, cc⟩; (try dsimp only)); rotate_left)
      · ((first | with_reducible apply Tri.mix [Ex (hp w)] | (apply TriR.mix [Ex (hp w)]; (case hnd => rfl))); (case p => (repeat first | with_reducible constructor | constructor)); (dsimp only [List.length]))
        ((first | (apply TriM.q 0; rfl; rfl) | (apply TriM.qYes 0; rfl; rfl; rfl; with_reducible rfl)); kernel_rfl; rfl; rfl; (intro F K hK; apply o_move; rfl; rfl; exact hK))
        ((first | (apply TriM.q 1; (case ho => rfl); (case hg => rfl)) | (apply TriM.qYes 1; (case ho => rfl); (case hg => rfl); (case hyl => rfl); (case hb => with_reducible rfl))); (case hB => kernel_rfl); (case hd => rfl); (case hn => rfl); (case h => (intro F K hK; (try dsimp only [List.cons_append, List.nil_append]); (apply o_ixRd (hr := hr) (j := 0); (case hx => rfl); (case hy => rfl); (case hj => rfl); (case hlt => omega); (case hl => (rw [B8_length]; omega)); (case hn => rfl)); exact hK)))
        ((first | (apply TriM.q 2; (case ho => rfl); (case hg => rfl)) | (apply TriM.qYes 2; (case ho => rfl); (case hg => rfl); (case hyl => rfl); (case hb => with_reducible rfl))); (case hB => kernel_rfl); (case hd => rfl); (case hn => rfl); (case h => (intro F K hK; (try dsimp only [List.cons_append, List.nil_append]); (apply o_loadRd (v := .int .u8 ((l.getD 0 0).toNat : Int)) (hr := hr); (case hx => rfl); (case p => (with_reducible repeat constructor)); (case hv => exact get_or l 0 (by omega)); (case hn => rfl)); exact hK)))
        ((first | (apply TriM.q 3; rfl; rfl) | (apply TriM.qYes 3; rfl; rfl; rfl; with_reducible rfl)); kernel_rfl; rfl; rfl; (intro F K hK; apply o_move; rfl; rfl; exact hK))
        ((first | (apply TriM.q 4; (case ho => rfl); (case hg => rfl)) | (apply TriM.qYes 4; (case ho => rfl); (case hg => rfl); (case hyl => rfl); (case hb => with_reducible rfl))); (case hB => kernel_rfl); (case hd => rfl); (case hn => rfl); (case h => (intro F K hK; (try dsimp only [List.cons_append, List.nil_append]); (apply o_slice (lo := 2) (hi := 4); (case hx => rfl); (case hr => exact rdw_ex (by (with_reducible repeat constructor)) hr); (case hol => first | exact fun _ _ => rfl | exact fun a ha => congrArg some (ha.eval rfl)); (case hoh => first | exact fun _ _ => rfl | exact fun a ha => congrArg some (ha.eval rfl)); (case hlo => first | exact .inr ⟨rfl, rfl⟩ | exact .inl ⟨_, rfl⟩ | exact .inl ⟨_, (by congr 2; omega)⟩); (case hhi => first | exact .inr ⟨rfl, rfl⟩ | exact .inl ⟨_, rfl⟩ | exact .inl ⟨_, (by congr 2; omega)⟩); (case hlh => omega); (case hhm => omega); (case hn => rfl)); exact hK)))
        ((first | (apply TriM.q 5; (case ho => rfl); (case hg => rfl)) | (apply TriM.qYes 5; (case ho => rfl); (case hg => rfl); (case hyl => rfl); (case hb => with_reducible rfl))); (case hB => kernel_rfl); (case hd => rfl); (case hn => rfl); (case h => (intro F K hK; (try dsimp only [List.cons_append, List.nil_append]); apply o_callV (hs := page_number (subv v 1 2 4) ((l.drop 2).take (4 - 2)) (by omega)); (case hargs => (repeat first | exact evs.nil | (apply evs.cons; case a => rfl))); (case hpre => exact rdw_ex (by (with_reducible repeat constructor)) (sub_rd hr 2 4 (by omega) (by omega))); (case hn => rfl); exact hK)))
        ((first | (apply TriM.q 6; rfl; rfl) | (apply TriM.qYes 6; rfl; rfl; rfl; with_reducible rfl)); kernel_rfl; rfl; rfl; (intro F K hK; apply o_convI; rfl; rfl; (first | decide | (exact wrap_i64 (by omega)) | (exact wrap_u8 (by omega)) | (exact wrap_u16 (by omega)) | (exact wrap_u32 (by omega)) | (exact wrap_u64 (by omega))); exact hK))
        ((first | (apply TriM.q 7; rfl; rfl) | (apply TriM.qYes 7; rfl; rfl; rfl; with_reducible rfl)); kernel_rfl; rfl; rfl; (intro F K hK; apply o_move; rfl; rfl; exact hK))
        ((first | (apply TriM.q 8; (case ho => rfl); (case hg => rfl)) | (apply TriM.qYes 8; (case ho => rfl); (case hg => rfl); (case hyl => rfl); (case hb => with_reducible rfl))); (case hB => kernel_rfl); (case hd => rfl); (case hn => rfl); (case h => (intro F K hK; (try dsimp only [List.cons_append, List.nil_append]); (apply o_slice (lo := 4) (hi := 12); (case hx => rfl); (case hr => exact rdw_ex (by (with_reducible repeat constructor)) hr); (case hol => first | exact fun _ _ => rfl | exact fun a ha => congrArg some (ha.eval rfl)); (case hoh => first | exact fun _ _ => rfl | exact fun a ha => congrArg some (ha.eval rfl)); (case hlo => first | exact .inr ⟨rfl, rfl⟩ | exact .inl ⟨_, rfl⟩ | exact .inl ⟨_, (by congr 2; omega)⟩); (case hhi => first | exact .inr ⟨rfl, rfl⟩ | exact .inl ⟨_, rfl⟩ | exact .inl ⟨_, (by congr 2; omega)⟩); (case hlh => omega); (case hhm => omega); (case hn => rfl)); exact hK)))
        ((first | (apply TriM.q 9; (case ho => rfl); (case hg => rfl)) | (apply TriM.qYes 9; (case ho => rfl); (case hg => rfl); (case hyl => rfl); (case hb => with_reducible rfl))); (case hB => kernel_rfl); (case hd => rfl); (case hn => rfl); (case h => (intro F K hK; (try dsimp only [List.cons_append, List.nil_append]); apply o_callV (hs := page_number (subv v 1 4 12) ((l.drop 4).take (12 - 4)) (by omega)); (case hargs => (repeat first | exact evs.nil | (apply evs.cons; case a => rfl))); (case hpre => exact rdw_ex (by (with_reducible repeat constructor)) (sub_rd hr 4 12 (by omega) (by omega))); (case hn => rfl); exact hK)))
        ((first | (apply TriM.q 10; rfl; rfl) | (apply TriM.qYes 10; rfl; rfl; rfl; with_reducible rfl)); kernel_rfl; rfl; rfl; (intro F K hK; apply o_move; rfl; rfl; exact hK); (first | (apply TriM.q 11; rfl; rfl) | (apply TriM.qYes 11; rfl; rfl; rfl; with_reducible rfl)); kernel_rfl; rfl; rfl; (intro F K hK; apply o_move; rfl; rfl; exact hK); (first | (apply TriM.q 12; rfl; rfl) | (apply TriM.qYes 12; rfl; rfl; rfl; with_reducible rfl)); kernel_rfl; rfl; rfl; (intro F K hK; apply o_add64; rfl; rfl; rfl; (omega); exact hK))
        ((first | (apply TriM.q 13; (case ho => rfl); (case hg => rfl)) | (apply TriM.qYes 13; (case ho => rfl); (case hg => rfl); (case hyl => rfl); (case hb => with_reducible rfl))); (case hB => kernel_rfl); (case hd => rfl); (case hn => rfl); (case h => (intro F K hK; (try dsimp only [List.cons_append, List.nil_append]); (apply o_slice (lo := 14) (hi := 14 + lenP l); (case hx => rfl); (case hr => exact rdw_ex (by (with_reducible repeat constructor)) hr); (case hol => first | exact fun _ _ => rfl | exact fun a ha => congrArg some (ha.eval rfl)); (case hoh => first | exact fun _ _ => rfl | exact fun a ha => congrArg some (ha.eval rfl)); (case hlo => first | exact .inr ⟨rfl, rfl⟩ | exact .inl ⟨_, rfl⟩ | exact .inl ⟨_, (by congr 2; omega)⟩); (case hhi => first | exact .inr ⟨rfl, rfl⟩ | exact .inl ⟨_, rfl⟩ | exact .inl ⟨_, (by congr 2; omega)⟩); (case hlh => omega); (case hhm => omega); (case hn => rfl)); exact hK)))
        (apply TriM.a2 14 16; (case hoi => rfl); (case hoj => rfl); (case hgi => rfl); (case hgj => rfl); (case hr => kernel_rfl); (all_goals (try dsimp only [List.cons_append, List.nil_append])))
        · (apply o_callR (hs := bytes_Clone (subv v 1 14 (14 + lenP l)) ((l.drop 14).take (14 + lenP l - 14)) (by omega)); (case hargs => (repeat first | exact evs.nil | (apply evs.cons; case a => rfl))); (case hpre => exact rdw_ex (by (with_reducible repeat constructor)) (sub_rd hr 14 (14 + lenP l) (by omega) (by omega))); (case hn => rfl))
          rintro vc Hc rfl
          (try dsimp only [List.cons_append, List.nil_append])
          ((with_reducible apply Tri.eqA (A := own 5 1 vc _ _) (B := own 5 1 vc (gotP l (lenP l)).b.length (B8 (gotP l (lenP l)).b))); (case p => (with_reducible repeat constructor)); (case e => (rw [ebb])))
          (refine Tri.shape (e := 5) (size := 1) (v := vc) (by (with_reducible repeat constructor)) ?_; rintro ⟨Ac, cc, rfl⟩)
          (apply TriM.back; (case p => (repeat first | with_reducible constructor | constructor)))
          ((first | (apply TriM.q 15; (case ho => rfl); (case hg => rfl)) | (apply TriM.qYes 15; (case ho => rfl); (case hg => rfl); (case hyl => rfl); (case hb => with_reducible rfl))); (case hB => kernel_rfl); (case hd => rfl); (case hn => rfl); (case h => (intro F K hK; (try dsimp only [List.cons_append, List.nil_append]); (apply o_build (ys := pgL (gotP l (lenP l)) (.slice Ac (gotP l (lenP l)).b.length cc)); (case hp => (repeat first | exact pev.nil | (apply pev.cons; case a => rfl))); (case hf => rfl); (case hn => rfl)); exact hK)))
          (apply TriM.a 16; (case ho => rfl); (case hg => rfl); (case hr => kernel_rfl); (try dsimp only [List.cons_append, List.nil_append]))
          (apply o_alloc; (case hn => rfl); intro b7)
          (apply TriM.back; (case p => (repeat first | with_reducible constructor | constructor)))
          (apply TriM.a 17; (case ho => rfl); (case hg => rfl); (case hr => kernel_rfl); (try dsimp only [List.cons_append, List.nil_append]))
          (apply o_storeAll (ys := pgL (gotP l (lenP l)) (.slice Ac (gotP l (lenP l)).b.length cc)); (case hx => rfl); (case hy => rfl); (case p => (with_reducible repeat constructor)); (case hl => rfl); (case hc => rfl); (case h1 => exact pgL_one _ Ac _ cc))
          (apply TriM.back; (case p => (repeat first | with_reducible constructor | constructor)))
          (apply TriM.nil; (case hr => kernel_rfl); (try dsimp only [List.cons_append, List.nil_append]))
          (refine Tri.thenN ?_)
          (apply Tri.reach (y := (b7, Ac, cc)); (case hL => ((try dsimp only); (repeat (first | exact trivial | refine And.intro (by rfl) ?_)))); (case p => ((try dsimp only); (repeat (first | exact Pulls.nil | (apply Pulls.cons; (case a => (first | ((repeat (first | with_reducible exact Gv.Pull.head | with_reducible apply Gv.Pull.tail)); done) | (repeat (first | exact Gv.Pull.head | apply Gv.Pull.tail))))))))))
        · (apply o_alloc; (case hn => rfl); intro b7)
          (apply TriM.back; (case p => (repeat first | with_reducible constructor | constructor)))
          (apply TriM.a 14; (case ho => rfl); (case hg => rfl); (case hr => kernel_rfl); (try dsimp only [List.cons_append, List.nil_append]))
          (apply o_callR (hs := bytes_Clone (subv v 1 14 (14 + lenP l)) ((l.drop 14).take (14 + lenP l - 14)) (by omega)); (case hargs => (repeat first | exact evs.nil | (apply evs.cons; case a => rfl))); (case hpre => exact rdw_ex (by (with_reducible repeat constructor)) (sub_rd hr 14 (14 + lenP l) (by omega) (by omega))); (case hn => rfl))
          rintro vc Hc rfl
          (try dsimp only [List.cons_append, List.nil_append])
          ((with_reducible apply Tri.eqA (A := own 5 1 vc _ _) (B := own 5 1 vc (gotP l (lenP l)).b.length (B8 (gotP l (lenP l)).b))); (case p => (with_reducible repeat constructor)); (case e => (rw [ebb])))
          (refine Tri.shape (e := 5) (size := 1) (v := vc) (by (with_reducible repeat constructor)) ?_; rintro ⟨Ac, cc, rfl⟩)
          (apply TriM.back; (case p => (repeat first | with_reducible constructor | constructor)))
          ((first | (apply TriM.q 15; (case ho => rfl); (case hg => rfl)) | (apply TriM.qYes 15; (case ho => rfl); (case hg => rfl); (case hyl => rfl); (case hb => with_reducible rfl))); (case hB => kernel_rfl); (case hd => rfl); (case hn => rfl); (case h => (intro F K hK; (try dsimp only [List.cons_append, List.nil_append]); (apply o_build (ys := pgL (gotP l (lenP l)) (.slice Ac (gotP l (lenP l)).b.length cc)); (case hp => (repeat first | exact pev.nil | (apply pev.cons; case a => rfl))); (case hf => rfl); (case hn => rfl)); exact hK)))
          (apply TriM.a 17; (case ho => rfl); (case hg => rfl); (case hr => kernel_rfl); (try dsimp only [List.cons_append, List.nil_append]))
          (apply o_storeAll (ys := pgL (gotP l (lenP l)) (.slice Ac (gotP l (lenP l)).b.length cc)); (case hx => rfl); (case hy => rfl); (case p => (with_reducible repeat constructor)); (case hl => rfl); (case hc => rfl); (case h1 => exact pgL_one _ Ac _ cc))
          (apply TriM.back; (case p => (repeat first | with_reducible constructor | constructor)))
          (apply TriM.nil; (case hr => kernel_rfl); (try dsimp only [List.cons_append, List.nil_append]))
          (refine Tri.thenN ?_)
          (apply Tri.reach (y := (b7, Ac, cc)); (case hL => ((try dsimp only); (repeat (first | exact trivial | refine And.intro (by rfl) ?_)))); (case p => ((try dsimp only); (repeat (first | exact Pulls.nil | (apply Pulls.cons; (case a => (first | ((repeat (first | with_reducible exact Gv.Pull.head | with_reducible apply Gv.Pull.tail)); done) | (repeat (first | exact Gv.Pull.head | apply Gv.Pull.tail))))))))))
      · (refine Tri.seq (Tri.region ?_); apply Tri.op; rfl)
        (apply o_loadAll; (case hx => rfl); (case p => (with_reducible repeat constructor)); (case hl => exact tabL_length); (case hn => rfl))
        (apply Tri.op; rfl)
        (apply o_loadAll; (case hx => rfl); (case p => (with_reducible repeat constructor)); (case hl => rfl); (case hn => rfl))
        (apply Tri.op; rfl)
        obtain ⟨q, hq⟩ : ∃ q, q = gotP l (lenP l) := ⟨_, rfl⟩
        have hqb : q.b.length = lenP l := by rw [hq, ebb, ebl]
        have hqg : q.g < 18446744073709551616 := by
          rw [hq]
          have := numB_lt ((l.drop 4).take (12 - 4))
          rw [e412] at this
          exact this
        simp only [← hq]
        by_cases hok : okP q = true
        · (apply o_callR (hs := page_Put q (.slice Ac q.b.length cc) hok hqg); (case hargs => (repeat first | exact evs.nil | (apply evs.cons; case a => rfl))); (case hpre => exact rdw_own (by (with_reducible repeat constructor))); (case hn => rfl))
          rintro r1 H1 ⟨u, rfl, rfl⟩
          (try dsimp only [List.cons_append, List.nil_append])
          (apply Tri.op; rfl; apply o_move; rfl; rfl; apply Tri.op; rfl; apply o_extract; rfl; rfl; rfl; apply Tri.op; rfl; apply o_extract; rfl; rfl; rfl; apply Tri.op; rfl; apply o_assign; rfl; rfl; apply Tri.op; rfl; apply o_assign; rfl; rfl; refine Tri.nil (Tri.thenN (Tri.seq (Tri.seq (Tri.region ?_)))); apply Tri.op; rfl; apply o_move; rfl; rfl; apply Tri.op; rfl; apply o_neq; rfl; rfl; rfl; apply Tri.op; rfl; apply o_move; rfl; rfl)
          ((with_reducible apply Tri.setb 45 (false)); (case h => rfl); (case hi => rfl))
          (apply Tri.opYes; rfl; rfl; rfl; apply o_move; rfl; rfl; apply Tri.opYes; rfl; rfl; rfl; apply o_move; rfl; rfl; apply Tri.opYes; rfl; rfl; rfl)
          (apply o_callV (hs := bytes_Equal' u v (putP q) l); (case hargs => (repeat first | exact evs.nil | (apply evs.cons; case a => rfl))); (case hpre => exact fun w' hw' => ⟨rdw_own (by (with_reducible repeat constructor)) w' hw', rdw_ex (by (with_reducible repeat constructor)) hr w' hw'⟩); (case hn => rfl))
          (apply Tri.opYes; rfl; rfl; rfl; apply o_notD; rfl; rfl; apply Tri.op; rfl; apply o_pickF; (iterate 4 rfl); refine Tri.nil (Tri.thenN ?_))
          by_cases hpe : putP q = l
          · have hg : getP l = (q, 0) := by rw [getP, if_neg (by omega), if_neg (by omega), if_pos ⟨by rw [← hq]; exact hok, by rw [← hq]; exact hpe⟩, ← hq]
            ((with_reducible apply Tri.setb 50 (false)); (case h => rfl); (case hi => simp [hpe]))
            (apply Tri.condF; rfl; rfl; refine Tri.skip (Tri.thenN (Tri.seq (Tri.region ?_))); apply Tri.op; rfl)
            (apply o_loadAll; (case hx => rfl); (case p => (with_reducible repeat constructor)); (case hl => rfl); (case hn => rfl))
            (apply Tri.op; rfl)
            (apply o_storeAll (ys := pgL q (.slice Ac q.b.length cc)); (case hx => rfl); (case hy => rfl); (case p => (with_reducible repeat constructor)); (case hl => rfl); (case hc => rfl); (case h1 => exact pgL_one q Ac _ cc))
            (apply Tri.op; rfl; apply o_assign; rfl; rfl; refine Tri.nil (Tri.thenN (Tri.ret ?_)))
            rw [hg]
            (apply Tri.fin; (case hr => rfl); (case h => exact ResL.cons ((Res1.agg rfl (by (with_reducible repeat constructor)) (by rw [List.drop_zero]; exact List.take_of_length_le (Nat.le_of_eq (pgL_len q (.slice Ac q.b.length cc)))) (pgL_len q (.slice Ac q.b.length cc)))) (ResL.cons (Res1.tmp rfl) (ResL.nil))); (apply fin_R (Hn := [own 5 1 (.slice Ac q.b.length cc) q.b.length (B8 q.b)])); (case p => exact (by (repeat first | with_reducible constructor | constructor))); exact ⟨Ac, cc, rfl, rfl⟩)
          · have hg : getP l = (zeroP, 3) := by rw [getP, if_neg (by omega), if_neg (by omega), if_neg (by rw [← hq]; exact fun h => hpe h.2)]
            ((with_reducible apply Tri.setb 50 (true)); (case h => rfl); (case hi => simp [hpe]))
            (apply Tri.condT; rfl; rfl; refine Tri.seq (Tri.region ?_); apply Tri.op; rfl; apply o_build0; rfl; apply Tri.op; rfl)
            (apply o_storeAll (ys := pgL zeroP (.slice none 0 0)); (case hx => rfl); (case hy => rfl); (case p => (with_reducible repeat constructor)); (case hl => rfl); (case hc => rfl); (case h1 => exact pgL_one zeroP none 0 0))
            (apply Tri.op; rfl; apply o_assign; rfl; rfl; refine Tri.nil (Tri.thenN (Tri.ret (Tri.thenR ?_))))
            (with_reducible apply Tri.ownNil 5 1)
            rw [hg]
            (apply Tri.fin; (case hr => rfl); (case h => exact ResL.cons ((Res1.agg rfl (by (with_reducible repeat constructor)) (by rw [List.drop_zero]; exact List.take_of_length_le (Nat.le_of_eq (pgL_len zeroP (.slice none 0 0)))) (pgL_len zeroP (.slice none 0 0)))) (ResL.cons (Res1.tmp rfl) (ResL.nil))); (apply fin_R (Hn := [own 5 1 (.slice none 0 0) 0 []])); (case p => exact (by (repeat first | with_reducible constructor | constructor))); exact ⟨none, 0, rfl, rfl⟩)
        · have hg : getP l = (zeroP, 3) := by rw [getP, if_neg (by omega), if_neg (by omega), if_neg (by rw [← hq]; exact fun h => hok h.1)]
          (apply o_callV (hs := page_Put_no q (.slice Ac q.b.length cc) (by simpa using hok)); (case hargs => (repeat first | exact evs.nil | (apply evs.cons; case a => rfl))); (case hpre => exact rdw_own (by (with_reducible repeat constructor))); (case hn => rfl))
          (apply Tri.op; rfl; apply o_move; rfl; rfl; apply Tri.op; rfl; apply o_extract; rfl; rfl; rfl; apply Tri.op; rfl; apply o_extract; rfl; rfl; rfl; apply Tri.op; rfl; apply o_assign; rfl; rfl; apply Tri.op; rfl; apply o_assign; rfl; rfl; refine Tri.nil (Tri.thenN (Tri.seq (Tri.seq (Tri.region ?_)))); apply Tri.op; rfl; apply o_move; rfl; rfl; apply Tri.op; rfl; apply o_neq; rfl; rfl; rfl; apply Tri.op; rfl; apply o_move; rfl; rfl)
          ((with_reducible apply Tri.setb 45 (true)); (case h => rfl); (case hi => rfl))
          ((iterate 4 apply Tri.opNo (c := true); (iterate 6 rfl)); apply Tri.op; rfl; apply o_pickT; (iterate 4 rfl); refine Tri.nil (Tri.thenN ?_); apply Tri.condT; rfl; rfl; refine Tri.seq (Tri.region ?_); apply Tri.op; rfl; apply o_build0; rfl; apply Tri.op; rfl)
          (apply o_storeAll (ys := pgL zeroP (.slice none 0 0)); (case hx => rfl); (case hy => rfl); (case p => (with_reducible repeat constructor)); (case hl => rfl); (case hc => rfl); (case h1 => exact pgL_one zeroP none 0 0))
          (apply Tri.op; rfl; apply o_assign; rfl; rfl; refine Tri.nil (Tri.thenN (Tri.ret (Tri.thenR ?_))))
          (with_reducible apply Tri.ownNil 5 1)
          rw [hg]
          (apply Tri.fin; (case hr => rfl); (case h => exact ResL.cons ((Res1.agg rfl (by (with_reducible repeat constructor)) (by rw [List.drop_zero]; exact List.take_of_length_le (Nat.le_of_eq (pgL_len zeroP (.slice none 0 0)))) (pgL_len zeroP (.slice none 0 0)))) (ResL.cons (Res1.tmp rfl) (ResL.nil))); (apply fin_R (Hn := [own 5 1 (.slice none 0 0) 0 []])); (case p => exact (by (repeat first | with_reducible constructor | constructor))); exact ⟨none, 0, rfl, rfl⟩)
end Go.Proofs.Ytckdlfbbkemklaa
end
