import Derived.Test.YtckdlfbbkemklaaZDkWalk
/- disk: New, and what is told of a disk. -/
namespace Go.Proofs.Ytckdlfbbkemklaa
open Go Go.RowKit Go.Gv
set_option linter.unusedVariables false
set_option linter.unusedSimpArgs false

set_option maxHeartbeats 1000000 in
theorem disk_New_no (pages : Int) (h : pages < 8 ∨ 512 < pages) : SpecR Try.prog 25 #[.int .i64 pages] (fun _ => True) (fun r H' => r = .tuple #[.pointer none, .int .i64 1] ∧ H' = []) := by
  refine SpecR.of (fun w _ => ?_)
  refine Calls.enter Try.func25 rfl rfl rfl (St.rebase w) ?_
  simp only [argSlots]
  ((with_reducible refine Tri.seq (Tri.region ?_)); (with_reducible apply Tri.op); rfl; (with_reducible apply o_assign); rfl; rfl; (with_reducible apply Tri.op); rfl; (with_reducible apply o_assign); rfl; rfl; (with_reducible refine Tri.nil (Tri.thenN (Tri.seq (Tri.seq (Tri.region ?_))))); (with_reducible apply Tri.op); rfl; (with_reducible apply o_move); rfl; rfl; (with_reducible apply Tri.op); rfl; (with_reducible apply o_lss); rfl; rfl; rfl; (with_reducible apply Tri.op); rfl; (with_reducible apply o_move); rfl; rfl)
  ((with_reducible apply Tri.casesB 6); (case h => rfl); (all_goals intro h1))
  · ((iterate 2 (with_reducible apply Tri.opNo (c := true)); (iterate 6 rfl)); (with_reducible apply Tri.op); rfl; (with_reducible apply o_pickT); (iterate 4 rfl); (with_reducible refine Tri.nil (Tri.thenN ?_)); (with_reducible apply Tri.condT); rfl; rfl; (with_reducible refine Tri.seq (Tri.region ?_)); (with_reducible apply Tri.op); rfl; (with_reducible apply o_assign); rfl; rfl; (with_reducible apply Tri.op); rfl; (with_reducible apply o_assign); rfl; rfl; (with_reducible refine Tri.nil (Tri.thenN (Tri.ret (Tri.thenR ?_)))))
    ((first | with_reducible apply Tri.fin | with_reducible apply Tri.finN); (case hr => rfl); (case h => exact ResL.cons (Res1.tmp rfl) (ResL.cons (Res1.tmp rfl) (ResL.nil))); (apply fin_R (Hn := [])); (case p => exact (by (repeat first | exact Pulls.nil | (apply Pulls.cons; repeat first | with_reducible exact Pull.head | apply Pull.tail)))); exact ⟨by simp only [tupled]; done, rfl⟩)
  · have h1' := of_decide_eq_false h1
    ((with_reducible apply Tri.opYes); rfl; rfl; rfl; (with_reducible apply o_move); rfl; rfl; (with_reducible apply Tri.opYes); rfl; rfl; rfl; (with_reducible apply o_gtr); rfl; rfl; rfl; (with_reducible apply Tri.op); rfl; (with_reducible apply o_pickF); (iterate 4 rfl); (with_reducible refine Tri.nil (Tri.thenN ?_)))
    ((first | with_reducible apply Tri.condD | with_reducible apply TriR.condD); (case hc => rfl); (all_goals intro h2))
    · ((with_reducible refine Tri.seq (Tri.region ?_)); (with_reducible apply Tri.op); rfl; (with_reducible apply o_assign); rfl; rfl; (with_reducible apply Tri.op); rfl; (with_reducible apply o_assign); rfl; rfl; (with_reducible refine Tri.nil (Tri.thenN (Tri.ret (Tri.thenR ?_)))))
      ((first | with_reducible apply Tri.fin | with_reducible apply Tri.finN); (case hr => rfl); (case h => exact ResL.cons (Res1.tmp rfl) (ResL.cons (Res1.tmp rfl) (ResL.nil))); (apply fin_R (Hn := [])); (case p => exact (by (repeat first | exact Pulls.nil | (apply Pulls.cons; repeat first | with_reducible exact Pull.head | apply Pull.tail)))); exact ⟨by simp only [tupled]; done, rfl⟩)
    · exact absurd h (by omega)

set_option maxHeartbeats 1000000 in
theorem disk_New (k : Nat) (h : 8 ≤ k ∧ k ≤ 512) : SpecR Try.prog 25 #[.int .i64 (k : Int)] (fun _ => True) (fun r H' => ∃ p a, r = .tuple #[.pointer (some ⟨p, 0, none⟩), .int .i64 0] ∧ H' = [blk p 132 [.slice (some ⟨a, 0, none⟩) (List.replicate (k * 256) (0 : UInt8)).length (List.replicate (k * 256) (0 : UInt8)).length, (.slice none 0 0), .bool false, .int .i64 (-1)], blk a 5 (B8 (List.replicate (k * 256) (0 : UInt8))), own 139 2 (.slice none 0 0) (([] : List WW)).length (WL (([] : List WW))), manyRd (WT (([] : List WW)))]) := by
  refine SpecR.of (fun w _ => ?_)
  refine Calls.enter Try.func25 rfl rfl rfl (St.rebase w) ?_
  simp only [argSlots]
  ((with_reducible refine Tri.seq (Tri.region ?_)); (with_reducible apply Tri.op); rfl; (with_reducible apply o_assign); rfl; rfl; (with_reducible apply Tri.op); rfl; (with_reducible apply o_assign); rfl; rfl; (with_reducible refine Tri.nil (Tri.thenN (Tri.seq (Tri.seq (Tri.region ?_))))); (with_reducible apply Tri.op); rfl; (with_reducible apply o_move); rfl; rfl; (with_reducible apply Tri.op); rfl; (with_reducible apply o_lss); rfl; rfl; rfl; (with_reducible apply Tri.op); rfl; (with_reducible apply o_move); rfl; rfl)
  ((with_reducible apply Tri.casesB 6); (case h => rfl); (all_goals intro h1))
  · exact absurd (of_decide_eq_true h1) (by omega)
  · ((with_reducible apply Tri.opYes); rfl; rfl; rfl; (with_reducible apply o_move); rfl; rfl; (with_reducible apply Tri.opYes); rfl; rfl; rfl; (with_reducible apply o_gtr); rfl; rfl; rfl; (with_reducible apply Tri.op); rfl; (with_reducible apply o_pickF); (iterate 4 rfl); (with_reducible refine Tri.nil (Tri.thenN ?_)))
    ((first | with_reducible apply Tri.condD | with_reducible apply TriR.condD); (case hc => rfl); (all_goals intro h2))
    · omega
    · ((with_reducible refine Tri.skip (Tri.thenN (Tri.seq (Tri.region ?_)))); (with_reducible apply Tri.op); rfl; (with_reducible apply o_move); rfl; rfl; (with_reducible apply Tri.op); rfl; (with_reducible apply o_mul64); rfl; rfl; rfl; (omega); (with_reducible apply Tri.op); rfl)
      ((with_reducible apply o_make1 (m := k * 256)); (case hx => rfl); (case hy => rfl); (case hi => omega); (case hj => omega); (case hb => omega); (case hn => rfl))
      intro a
      ((with_reducible apply Tri.op); rfl)
      ((with_reducible apply o_build); (case hp => (repeat first | exact pev.nil | (apply pev.cons; case a => rfl))); (case hf => rfl); (case hn => rfl))
      ((with_reducible apply Tri.op); rfl)
      (first | ((with_reducible apply o_boxA); (case hx => rfl); (case hn => rfl); intro p) | ((with_reducible apply o_box1); (case hx => rfl); (case h1 => rfl); (case hn => rfl); intro p))
      ((with_reducible apply Tri.op); rfl; (with_reducible apply o_assign); rfl; rfl; (with_reducible apply Tri.op); rfl; (with_reducible apply o_assign); rfl; rfl; (with_reducible refine Tri.nil (Tri.thenN (Tri.ret ?_))))
      have e : (List.replicate (k * 256) (0 : UInt8)).length = k * 256 := List.length_replicate
      ((with_reducible apply Tri.eqA (A := blk p _ _) (B := blk p 132 [.slice (some ⟨a, 0, none⟩) (List.replicate (k * 256) (0 : UInt8)).length (List.replicate (k * 256) (0 : UInt8)).length, .slice none 0 0, .bool false, .int .i64 (-1)])); (case p => (repeat first | with_reducible exact Pull.head | apply Pull.tail)); (case e => (rw [e]; rfl)))
      ((with_reducible apply Tri.eqA (A := blk a _ _) (B := blk a 5 (B8 (List.replicate (k * 256) 0)))); (case p => (repeat first | with_reducible exact Pull.head | apply Pull.tail)); (case e => (rw [B8, List.map_replicate]; rfl)))
      (with_reducible apply Tri.ownNil 139 2)
      ((with_reducible apply Tri.eqA (A := own 139 2 (.slice none 0 0) 0 []) (B := own 139 2 (.slice none 0 0) ([] : List WW).length (WL ([] : List WW)))); (case p => (repeat first | with_reducible exact Pull.head | apply Pull.tail)); (case e => rfl))
      (refine Tri.pure_ (A := manyRd (WT [])) manyRd_nil ?_)
      ((first | with_reducible apply Tri.fin | with_reducible apply Tri.finN); (case hr => rfl); (case h => (repeat (first | exact ResL.nil | (apply ResL.cons; (case a => (first | exact Res1.tmp rfl | (apply Res1.cell; rfl; (repeat first | with_reducible exact Pull.head | apply Pull.tail); rfl) | (apply Res1.agg; rfl; (repeat first | with_reducible exact Pull.head | apply Pull.tail); rfl; rfl))))))); (apply fin_R (Hn := [blk p 132 [.slice (some ⟨a, 0, none⟩) (List.replicate (k * 256) (0 : UInt8)).length (List.replicate (k * 256) (0 : UInt8)).length, (.slice none 0 0), .bool false, .int .i64 (-1)], blk a 5 (B8 (List.replicate (k * 256) (0 : UInt8))), own 139 2 (.slice none 0 0) (([] : List WW)).length (WL (([] : List WW))), manyRd (WT (([] : List WW)))])); (case p => (repeat first | exact Pulls.nil | (apply Pulls.cons; repeat first | with_reducible exact Pull.head | apply Pull.tail))))
      exact ⟨p, a, rfl, rfl⟩

set_option maxHeartbeats 1000000 in
theorem disk_Image (p a : Nat) (vw : Value) (A : List UInt8) (off : Bool) (till : Int) (hA : A.length ≤ 1000000) : Gv.Spec Try.prog 31 #[.pointer (some ⟨p, 0, none⟩)] [blk p 132 [.slice (some ⟨a, 0, none⟩) A.length A.length, vw, .bool off, .int .i64 till], blk a 5 (B8 A)]
    (fun r H' => H' = [own 5 1 r A.length (B8 A), blk p 132 [.slice (some ⟨a, 0, none⟩) A.length A.length, vw, .bool off, .int .i64 till], blk a 5 (B8 A)]) := by
  refine Gv.Spec.of (fun w h0 hw => ?_)
  refine Calls.enter Try.func31 rfl rfl rfl hw ?_
  simp only [argSlots]
  (try dsimp only [List.cons_append, List.nil_append])
  ((with_reducible refine Tri.seq (Tri.region ?_)); (with_reducible apply Tri.op); rfl; (with_reducible apply o_assign); rfl; rfl; (with_reducible refine Tri.nil (Tri.thenN (Tri.seq (Tri.seq (Tri.region ?_))))); (with_reducible apply Tri.op); rfl; (with_reducible apply o_move); rfl; rfl; (with_reducible apply Tri.op); rfl; (with_reducible apply o_eqlN); rfl; rfl; rfl; (with_reducible refine Tri.nil (Tri.thenN ?_)))
  ((with_reducible apply Tri.setb 4 (false)); (case h => rfl); (case hi => rfl))
  ((with_reducible apply Tri.condF); rfl; rfl; (with_reducible refine Tri.skip (Tri.thenN (Tri.seq (Tri.region ?_)))); (with_reducible apply Tri.op); rfl; (with_reducible apply o_move); rfl; rfl; (with_reducible apply Tri.op); rfl; (with_reducible apply o_nilCheck); rfl; rfl; (with_reducible apply Tri.op); rfl; (with_reducible apply o_fieldAddr); rfl; rfl; (with_reducible apply Tri.op); rfl; (with_reducible apply o_load); rfl; (repeat first | with_reducible exact Pull.head | apply Pull.tail); rfl; rfl; (with_reducible apply Tri.op); rfl)
  ((with_reducible apply o_callR (hs := bytes_Clone (.slice (some ⟨a, 0, none⟩) A.length A.length) A hA)); (case hargs => (repeat first | exact evs.nil | (apply evs.cons; case a => rfl))); (case hpre => exact rdw_blk (by (repeat first | with_reducible exact Pull.head | apply Pull.tail)) ⟨Nat.le_refl _, by omega⟩ (List.take_length)); (case hn => rfl))
  rintro v Hq rfl
  (try dsimp only [List.cons_append, List.nil_append])
  ((with_reducible apply Tri.op); rfl; (with_reducible apply o_assign); rfl; rfl; (with_reducible refine Tri.nil (Tri.thenN (Tri.ret ?_))))
  ((first | with_reducible apply Tri.fin | with_reducible apply Tri.finN); (case hr => rfl); (case h => (repeat (first | exact ResL.nil | (apply ResL.cons; (case a => (first | exact Res1.tmp rfl | (apply Res1.cell; rfl; (repeat first | with_reducible exact Pull.head | apply Pull.tail); rfl) | (apply Res1.agg; rfl; (repeat first | with_reducible exact Pull.head | apply Pull.tail); rfl; rfl))))))); (apply fin_R (Hn := [own 5 1 v A.length (B8 A), blk p 132 [.slice (some ⟨a, 0, none⟩) A.length A.length, vw, .bool off, .int .i64 till], blk a 5 (B8 A)])); (case p => (repeat first | exact Pulls.nil | (apply Pulls.cons; repeat first | with_reducible exact Pull.head | apply Pull.tail))))
  rfl

set_option maxHeartbeats 1000000 in
theorem disk_Pages (p a N : Nat) (vw : Value) (off : Bool) (till : Int) (hN : N ≤ 1000000) : Gv.Spec Try.prog 95 #[.pointer (some ⟨p, 0, none⟩)] [blk p 132 [.slice (some ⟨a, 0, none⟩) N N, vw, .bool off, .int .i64 till]]
    (fun r H' => r = .int .i64 ((N / 256 : Nat) : Int) ∧ H' = [blk p 132 [.slice (some ⟨a, 0, none⟩) N N, vw, .bool off, .int .i64 till]]) := by
  refine Gv.Spec.of (fun w h0 hw => ?_)
  refine Calls.enter Try.func95 rfl rfl rfl hw ?_
  simp only [argSlots]
  (try dsimp only [List.cons_append, List.nil_append])
  ((with_reducible refine Tri.seq (Tri.region ?_)); (with_reducible apply Tri.op); rfl; (with_reducible apply o_assign); rfl; rfl; (with_reducible refine Tri.nil (Tri.thenN (Tri.seq (Tri.seq (Tri.region ?_))))); (with_reducible apply Tri.op); rfl; (with_reducible apply o_move); rfl; rfl; (with_reducible apply Tri.op); rfl; (with_reducible apply o_eqlN); rfl; rfl; rfl; (with_reducible refine Tri.nil (Tri.thenN ?_)))
  ((with_reducible apply Tri.setb 4 (false)); (case h => rfl); (case hi => rfl))
  ((with_reducible apply Tri.condF); rfl; rfl; (with_reducible refine Tri.skip (Tri.thenN (Tri.seq (Tri.region ?_)))); (with_reducible apply Tri.op); rfl; (with_reducible apply o_move); rfl; rfl; (with_reducible apply Tri.op); rfl; (with_reducible apply o_nilCheck); rfl; rfl; (with_reducible apply Tri.op); rfl; (with_reducible apply o_fieldAddr); rfl; rfl; (with_reducible apply Tri.op); rfl; (with_reducible apply o_load); rfl; (repeat first | with_reducible exact Pull.head | apply Pull.tail); rfl; rfl; (with_reducible apply Tri.op); rfl; (with_reducible apply o_len); rfl; rfl; (with_reducible apply Tri.op); rfl; (with_reducible apply o_quo); rfl; rfl; rfl; (omega); (omega); (with_reducible apply Tri.op); rfl; (with_reducible apply o_assign); rfl; rfl; (with_reducible refine Tri.nil (Tri.thenN (Tri.ret ?_))))
  ((first | with_reducible apply Tri.fin | with_reducible apply Tri.finN); (case hr => rfl); (case h => (repeat (first | exact ResL.nil | (apply ResL.cons; (case a => (first | exact Res1.tmp rfl | (apply Res1.cell; rfl; (repeat first | with_reducible exact Pull.head | apply Pull.tail); rfl) | (apply Res1.agg; rfl; (repeat first | with_reducible exact Pull.head | apply Pull.tail); rfl; rfl))))))); (apply fin_R (Hn := [blk p 132 [.slice (some ⟨a, 0, none⟩) N N, vw, .bool off, .int .i64 till]])); (case p => (repeat first | exact Pulls.nil | (apply Pulls.cons; repeat first | with_reducible exact Pull.head | apply Pull.tail))))
  exact ⟨by simp only [tupled]; rfl, rfl⟩

end Go.Proofs.Ytckdlfbbkemklaa
