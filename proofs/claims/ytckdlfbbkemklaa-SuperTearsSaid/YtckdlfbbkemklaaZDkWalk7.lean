import Derived.Test.YtckdlfbbkemklaaZDkWalk6
/- disk: a torn write; images that are loaded. -/
namespace Go.Proofs.Ytckdlfbbkemklaa
open Go Go.RowKit Go.Gv
set_option linter.unusedVariables false
set_option linter.unusedSimpArgs false

theorem tear_read : readM (keepM (List.replicate (8 * 256) (0 : UInt8)) 3 (List.replicate 64 (255 : UInt8)) (true, 1)) [] 3 = List.replicate 8 255 ++ List.replicate 56 0 := by decide +kernel
theorem crash_one (A : List UInt8) (i : Nat) (v : Value) (b : List UInt8) (f : Bool × UInt8) : crashM A ([] ++ [(⟨i, v, b⟩ : WW)]) [f] = keepM A i b f := rfl
set_option maxHeartbeats 4000000 in
theorem disk_Load_no (v : Value) (l : List UInt8) (h : l.length % 256 ≠ 0 ∨ l.length / 256 < 8 ∨ 512 < l.length / 256) : SpecR Try.prog 30 #[v] (fun w => RdW w v l.length (B8 l)) (fun r H' => r = .tuple #[.pointer none, .int .i64 1] ∧ H' = []) := by
  refine SpecR.of (fun w hr => ?_)
  have hlen := hr.le
  refine Calls.enter Try.func30 rfl rfl rfl (St.rebase w) ?_
  simp only [argSlots]
  ((with_reducible refine Tri.seq (Tri.region ?_)); (with_reducible apply Tri.op); rfl; (with_reducible apply o_assign); rfl; rfl; (with_reducible apply Tri.op); rfl; (with_reducible apply o_assign); rfl; rfl; (with_reducible refine Tri.nil (Tri.thenN (Tri.seq (Tri.seq (Tri.region ?_))))); (with_reducible apply Tri.op); rfl; (with_reducible apply o_move); rfl; rfl; (with_reducible apply Tri.op); rfl)
  ((with_reducible apply o_lenRd (hr := hr)); (case hx => rfl); (case hn => rfl))
  ((with_reducible apply Tri.op); rfl; (with_reducible apply o_rem); rfl; rfl; rfl; (omega); (omega); (with_reducible apply Tri.op); rfl; (with_reducible apply o_neq); rfl; rfl; rfl; (with_reducible refine Tri.nil (Tri.thenN ?_)))
  ((first | with_reducible apply Tri.condD | with_reducible apply TriR.condD); (case hc => rfl); (all_goals intro h1))
  · ((with_reducible refine Tri.seq (Tri.region ?_)); (with_reducible apply Tri.op); rfl; (with_reducible apply o_assign); rfl; rfl; (with_reducible apply Tri.op); rfl; (with_reducible apply o_assign); rfl; rfl; (with_reducible refine Tri.nil (Tri.thenN (Tri.ret (Tri.thenR ?_)))))
    ((first | with_reducible apply Tri.fin | with_reducible apply Tri.finN); (case hr => rfl); (case h => exact ResL.cons (Res1.tmp rfl) (ResL.cons (Res1.tmp rfl) (ResL.nil))); (apply fin_R (Hn := [])); (case p => exact (by (repeat first | exact Pulls.nil | (apply Pulls.cons; repeat first | with_reducible exact Pull.head | apply Pull.tail)))); exact ⟨by simp only [tupled]; done, rfl⟩)
  · ((with_reducible refine Tri.skip (Tri.thenN (Tri.seq (Tri.region ?_)))); (with_reducible apply Tri.op); rfl; (with_reducible apply o_move); rfl; rfl; (with_reducible apply Tri.op); rfl)
    ((with_reducible apply o_lenRd (hr := hr)); (case hx => rfl); (case hn => rfl))
    ((with_reducible apply Tri.op); rfl; (with_reducible apply o_quo); rfl; rfl; rfl; (omega); (omega); (with_reducible apply Tri.op); rfl)
    ((with_reducible apply o_callV (hs := disk_New_no ((l.length : Int) / 256) (by omega))); (case hargs => (repeat first | exact evs.nil | (apply evs.cons; case a => rfl))); (case hpre => exact fun _ _ => trivial); (case hn => rfl))
    ((with_reducible apply Tri.op); rfl; (with_reducible apply o_move); rfl; rfl; (with_reducible apply Tri.op); rfl; (with_reducible apply o_extract); rfl; rfl; rfl; (with_reducible apply Tri.op); rfl; (with_reducible apply o_extract); rfl; rfl; rfl; (with_reducible apply Tri.op); rfl; (with_reducible apply o_assign); rfl; rfl; (with_reducible apply Tri.op); rfl; (with_reducible apply o_assign); rfl; rfl; (with_reducible refine Tri.nil (Tri.thenN (Tri.seq (Tri.seq (Tri.region ?_))))); (with_reducible apply Tri.op); rfl; (with_reducible apply o_move); rfl; rfl; (with_reducible apply Tri.op); rfl; (with_reducible apply o_neq); rfl; rfl; rfl; (with_reducible refine Tri.nil (Tri.thenN ?_)))
    ((first | with_reducible apply Tri.condD | with_reducible apply TriR.condD); (case hc => rfl); (all_goals intro h2))
    · ((with_reducible refine Tri.seq (Tri.region ?_)); (with_reducible apply Tri.op); rfl; (with_reducible apply o_move); rfl; rfl; (with_reducible apply Tri.op); rfl; (with_reducible apply o_assign); rfl; rfl; (with_reducible apply Tri.op); rfl; (with_reducible apply o_assign); rfl; rfl; (with_reducible refine Tri.nil (Tri.thenN (Tri.ret (Tri.thenR ?_)))))
      ((first | with_reducible apply Tri.fin | with_reducible apply Tri.finN); (case hr => rfl); (case h => exact ResL.cons (Res1.tmp rfl) (ResL.cons (Res1.tmp rfl) (ResL.nil))); (apply fin_R (Hn := [])); (case p => exact (by (repeat first | exact Pulls.nil | (apply Pulls.cons; repeat first | with_reducible exact Pull.head | apply Pull.tail)))); exact ⟨by simp only [tupled]; done, rfl⟩)
    · omega

set_option maxHeartbeats 4000000 in
theorem disk_Load (v : Value) (l : List UInt8) (k : Nat) (hk : l.length = k * 256) (h : 8 ≤ k ∧ k ≤ 512) : SpecR Try.prog 30 #[v] (fun w => RdW w v l.length (B8 l)) (fun r H' => ∃ p a, r = .tuple #[.pointer (some ⟨p, 0, none⟩), .int .i64 0] ∧ H' = [blk p 132 [.slice (some ⟨a, 0, none⟩) (l).length (l).length, (.slice none 0 0), .bool false, .int .i64 (-1)], blk a 5 (B8 (l)), own 139 2 (.slice none 0 0) (([] : List WW)).length (WL (([] : List WW))), manyRd (WT (([] : List WW)))]) := by
  refine SpecR.of (fun w hr => ?_)
  have hlen := hr.le
  refine Calls.enter Try.func30 rfl rfl rfl (St.rebase w) ?_
  simp only [argSlots]
  ((with_reducible refine Tri.seq (Tri.region ?_)); (with_reducible apply Tri.op); rfl; (with_reducible apply o_assign); rfl; rfl; (with_reducible apply Tri.op); rfl; (with_reducible apply o_assign); rfl; rfl; (with_reducible refine Tri.nil (Tri.thenN (Tri.seq (Tri.seq (Tri.region ?_))))); (with_reducible apply Tri.op); rfl; (with_reducible apply o_move); rfl; rfl; (with_reducible apply Tri.op); rfl)
  ((with_reducible apply o_lenRd (hr := hr)); (case hx => rfl); (case hn => rfl))
  ((with_reducible apply Tri.op); rfl; (with_reducible apply o_rem); rfl; rfl; rfl; (omega); (omega); (with_reducible apply Tri.op); rfl; (with_reducible apply o_neq); rfl; rfl; rfl; (with_reducible refine Tri.nil (Tri.thenN ?_)))
  ((first | with_reducible apply Tri.condD | with_reducible apply TriR.condD); (case hc => rfl); (all_goals intro h1))
  · omega
  · ((with_reducible refine Tri.skip (Tri.thenN (Tri.seq (Tri.region ?_)))); (with_reducible apply Tri.op); rfl; (with_reducible apply o_move); rfl; rfl; (with_reducible apply Tri.op); rfl)
    ((with_reducible apply o_lenRd (hr := hr)); (case hx => rfl); (case hn => rfl))
    ((with_reducible apply Tri.op); rfl; (with_reducible apply o_quo); rfl; rfl; rfl; (omega); (omega); (with_reducible apply Tri.op); rfl)
    ((with_reducible apply Tri.seti 13 ((k : Int))); (case h => rfl); (case hi => omega))
    ((with_reducible apply o_callR (hs := disk_New k h)); (case hargs => (repeat first | exact evs.nil | (apply evs.cons; case a => rfl))); (case hpre => exact fun _ _ => trivial); (case hn => rfl))
    rintro r1 H1 ⟨p, a, rfl, rfl⟩
    (try dsimp only [List.cons_append, List.nil_append])
    ((with_reducible apply Tri.op); rfl; (with_reducible apply o_move); rfl; rfl; (with_reducible apply Tri.op); rfl; (with_reducible apply o_extract); rfl; rfl; rfl; (with_reducible apply Tri.op); rfl; (with_reducible apply o_extract); rfl; rfl; rfl; (with_reducible apply Tri.op); rfl; (with_reducible apply o_assign); rfl; rfl; (with_reducible apply Tri.op); rfl; (with_reducible apply o_assign); rfl; rfl; (with_reducible refine Tri.nil (Tri.thenN (Tri.seq (Tri.seq (Tri.region ?_))))); (with_reducible apply Tri.op); rfl; (with_reducible apply o_move); rfl; rfl; (with_reducible apply Tri.op); rfl; (with_reducible apply o_neq); rfl; rfl; rfl; (with_reducible refine Tri.nil (Tri.thenN ?_)))
    ((first | with_reducible apply Tri.condD | with_reducible apply TriR.condD); (case hc => rfl); (all_goals intro h2))
    · omega
    · ((with_reducible refine Tri.skip (Tri.thenN (Tri.seq (Tri.region ?_)))); (with_reducible apply Tri.op); rfl; (with_reducible apply o_move); rfl; rfl; (with_reducible apply Tri.op); rfl; (with_reducible apply o_nilCheck); rfl; rfl; (with_reducible apply Tri.op); rfl; (with_reducible apply o_fieldAddr); rfl; rfl; (with_reducible apply Tri.op); rfl; (with_reducible apply o_load); rfl; (repeat first | with_reducible exact Pull.head | apply Pull.tail); rfl; rfl; (with_reducible apply Tri.op); rfl; (with_reducible apply o_move); rfl; rfl; (with_reducible apply Tri.op); rfl)
      have e : (List.replicate (k * 256) (0 : UInt8)).length = k * 256 := List.length_replicate
      ((with_reducible apply o_copyB (q := k * 256)); (case hx => rfl); (case hy => rfl); (case p => (repeat first | with_reducible exact Pull.head | apply Pull.tail)); (case hr => exact rdw_ex (by (repeat first | with_reducible exact Pull.head | apply Pull.tail)) hr); (case hl => exact B8_length l); (case hq => (rw [e]; omega)); (case hfit => (rw [B8_length, e]; omega)); (case h1 => exact B8_one l); (case hn => rfl))
      ((with_reducible refine Tri.nil (Tri.thenN (Tri.seq (Tri.region ?_)))); (with_reducible apply Tri.op); rfl; (with_reducible apply o_move); rfl; rfl; (with_reducible apply Tri.op); rfl; (with_reducible apply o_assign); rfl; rfl; (with_reducible apply Tri.op); rfl; (with_reducible apply o_assign); rfl; rfl; (with_reducible refine Tri.nil (Tri.thenN (Tri.ret ?_))))
      ((with_reducible apply Tri.eqA (A := blk a _ _) (B := blk a 5 (B8 l))); (case p => (repeat first | with_reducible exact Pull.head | apply Pull.tail)); (case e => (congr 1; rw [List.take_zero, List.nil_append, List.take_of_length_le (by rw [B8_length]; omega), List.drop_of_length_le (by rw [B8_length, e]; omega), List.append_nil])))
      ((with_reducible apply Tri.eqA (A := blk p _ _) (B := blk p 132 [.slice (some ⟨a, 0, none⟩) l.length l.length, .slice none 0 0, .bool false, .int .i64 (-1)])); (case p => (repeat first | with_reducible exact Pull.head | apply Pull.tail)); (case e => (rw [e, hk])))
      ((first | with_reducible apply Tri.fin | with_reducible apply Tri.finN); (case hr => rfl); (case h => (repeat (first | exact ResL.nil | (apply ResL.cons; (case a => (first | exact Res1.tmp rfl | (apply Res1.cell; rfl; (repeat first | with_reducible exact Pull.head | apply Pull.tail); rfl) | (apply Res1.agg; rfl; (repeat first | with_reducible exact Pull.head | apply Pull.tail); rfl; rfl))))))); (apply fin_R (Hn := [blk p 132 [.slice (some ⟨a, 0, none⟩) (l).length (l).length, (.slice none 0 0), .bool false, .int .i64 (-1)], blk a 5 (B8 (l)), own 139 2 (.slice none 0 0) (([] : List WW)).length (WL (([] : List WW))), manyRd (WT (([] : List WW)))])); (case p => (repeat first | exact Pulls.nil | (apply Pulls.cons; repeat first | with_reducible exact Pull.head | apply Pull.tail))))
      exact ⟨p, a, rfl, rfl⟩
end Go.Proofs.Ytckdlfbbkemklaa
