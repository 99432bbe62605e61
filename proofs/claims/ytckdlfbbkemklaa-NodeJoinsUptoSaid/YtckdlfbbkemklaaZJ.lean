import Derived.Test.YtckdlfbbkemklaaZGvSeat
import Derived.Test.YtckdlfbbkemklaaZB
import Derived.Test.YtckdlfbbkemklaaZI
section
/- slices: Clone, for the elements of a node (printed by mkslices.py). -/
namespace Go.Proofs.Ytckdlfbbkemklaa
open Go Go.RowKit Go.Gv
set_option linter.unusedVariables false
set_option linter.unusedSimpArgs false

theorem slices_Cloneint (v : Value) (n : Nat) (xs : List Value) (hl : xs.length = n * 1) (h1 : ∀ y ∈ xs, y.oneCell' = true) (hb : n ≤ 5000000) : SpecR Try.prog 81 #[v] (fun w => RdW w v n xs) (fun r H' => H' = [own 3 1 r n xs]) := by
  refine SpecR.of (fun w hr => ?_)
  refine Calls.enter Try.func81 rfl rfl rfl (St.rebase w) ?_
  simp only [argSlots]
  ((with_reducible refine Tri.seq (Tri.region ?_)); (with_reducible apply Tri.op); rfl; (with_reducible apply o_assign); rfl; rfl; (with_reducible refine Tri.nil (Tri.thenN (Tri.seq (Tri.seq (Tri.region ?_))))); (with_reducible apply Tri.op); rfl; (with_reducible apply o_move); rfl; rfl; (with_reducible apply Tri.op); rfl)
  ((with_reducible apply o_eqlSN); (case hx => rfl); (case hy => rfl); (case hr => exact rdw_ex (by (repeat first | with_reducible exact Pull.head | apply Pull.tail)) hr); (case hn => rfl))
  intro b hbl
  cases b
  · ((with_reducible refine Tri.nil (Tri.thenN ?_)); (with_reducible apply Tri.condF); rfl; rfl; (with_reducible refine Tri.skip (Tri.thenN (Tri.seq (Tri.region ?_)))); (with_reducible apply Tri.op); rfl)
    ((with_reducible apply o_litSl (ys := [])); (case hp => (repeat first | exact pev.nil | (apply pev.cons; case a => rfl))); (case hm => rfl); (case hf => rfl); (case hn => rfl); intro vr)
    ((with_reducible apply Tri.op); rfl; (with_reducible apply o_move); rfl; rfl; (with_reducible apply Tri.op); rfl)
    ((with_reducible apply o_append); (case hx => rfl); (case hy => rfl); (case p => (repeat first | with_reducible exact Pull.head | apply Pull.tail)); (case hr => exact rdw_ex (by (repeat first | with_reducible exact Pull.head | apply Pull.tail)) hr); (case hl => exact hl); (case h1 => exact h1); (case hb => omega); (case hn => rfl))
    intro v'
    ((with_reducible apply Tri.op); rfl; (with_reducible apply o_assign); rfl; rfl; (with_reducible refine Tri.nil (Tri.thenN (Tri.ret ?_))))
    ((with_reducible apply Tri.eqA (A := own 3 1 v' _ _) (B := own 3 1 v' n xs)); (case p => (repeat first | with_reducible exact Pull.head | apply Pull.tail)); (case e => (rw [Nat.zero_add, List.nil_append])))
    ((first | with_reducible apply Tri.fin | with_reducible apply Tri.finN); (case hr => rfl); (case h => (repeat (first | exact ResL.nil | (apply ResL.cons; (case a => (first | exact Res1.tmp rfl | (apply Res1.cell; rfl; (repeat first | with_reducible exact Pull.head | apply Pull.tail); rfl) | (apply Res1.agg; rfl; (repeat first | with_reducible exact Pull.head | apply Pull.tail); rfl; rfl))))))); (apply fin_R (Hn := [own 3 1 v' n xs])); (case p => (repeat first | exact Pulls.nil | (apply Pulls.cons; repeat first | with_reducible exact Pull.head | apply Pull.tail))))
    simp only [tupled]
  · have hx : xs = [] := hbl rfl
    subst hx
    obtain rfl : n = 0 := by simp at hl; omega
    ((with_reducible refine Tri.nil (Tri.thenN ?_)); (with_reducible apply Tri.condT); rfl; rfl; (with_reducible refine Tri.seq (Tri.region ?_)); (with_reducible apply Tri.op); rfl; (with_reducible apply o_assign); rfl; rfl; (with_reducible refine Tri.nil (Tri.thenN (Tri.ret (Tri.thenR ?_)))))
    (with_reducible apply Tri.ownNil 3 1)
    ((first | with_reducible apply Tri.fin | with_reducible apply Tri.finN); (case hr => rfl); (case h => (repeat (first | exact ResL.nil | (apply ResL.cons; (case a => (first | exact Res1.tmp rfl | (apply Res1.cell; rfl; (repeat first | with_reducible exact Pull.head | apply Pull.tail); rfl) | (apply Res1.agg; rfl; (repeat first | with_reducible exact Pull.head | apply Pull.tail); rfl; rfl))))))); (apply fin_R (Hn := [own 3 1 (.slice none 0 0) 0 []])); (case p => (repeat first | exact Pulls.nil | (apply Pulls.cons; repeat first | with_reducible exact Pull.head | apply Pull.tail))))
    rfl

theorem slices_CloneKey (v : Value) (n : Nat) (xs : List Value) (hl : xs.length = n * 2) (h1 : ∀ y ∈ xs, y.oneCell' = true) (hb : n ≤ 5000000) : SpecR Try.prog 80 #[v] (fun w => RdW w v n xs) (fun r H' => H' = [own 98 2 r n xs]) := by
  refine SpecR.of (fun w hr => ?_)
  refine Calls.enter Try.func80 rfl rfl rfl (St.rebase w) ?_
  simp only [argSlots]
  ((with_reducible refine Tri.seq (Tri.region ?_)); (with_reducible apply Tri.op); rfl; (with_reducible apply o_assign); rfl; rfl; (with_reducible refine Tri.nil (Tri.thenN (Tri.seq (Tri.seq (Tri.region ?_))))); (with_reducible apply Tri.op); rfl; (with_reducible apply o_move); rfl; rfl; (with_reducible apply Tri.op); rfl)
  ((with_reducible apply o_eqlSN); (case hx => rfl); (case hy => rfl); (case hr => exact rdw_ex (by (repeat first | with_reducible exact Pull.head | apply Pull.tail)) hr); (case hn => rfl))
  intro b hbl
  cases b
  · ((with_reducible refine Tri.nil (Tri.thenN ?_)); (with_reducible apply Tri.condF); rfl; rfl; (with_reducible refine Tri.skip (Tri.thenN (Tri.seq (Tri.region ?_)))); (with_reducible apply Tri.op); rfl)
    ((with_reducible apply o_litSl (ys := [])); (case hp => (repeat first | exact pev.nil | (apply pev.cons; case a => rfl))); (case hm => rfl); (case hf => rfl); (case hn => rfl); intro vr)
    ((with_reducible apply Tri.op); rfl; (with_reducible apply o_move); rfl; rfl; (with_reducible apply Tri.op); rfl)
    ((with_reducible apply o_append); (case hx => rfl); (case hy => rfl); (case p => (repeat first | with_reducible exact Pull.head | apply Pull.tail)); (case hr => exact rdw_ex (by (repeat first | with_reducible exact Pull.head | apply Pull.tail)) hr); (case hl => exact hl); (case h1 => exact h1); (case hb => omega); (case hn => rfl))
    intro v'
    ((with_reducible apply Tri.op); rfl; (with_reducible apply o_assign); rfl; rfl; (with_reducible refine Tri.nil (Tri.thenN (Tri.ret ?_))))
    ((with_reducible apply Tri.eqA (A := own 98 2 v' _ _) (B := own 98 2 v' n xs)); (case p => (repeat first | with_reducible exact Pull.head | apply Pull.tail)); (case e => (rw [Nat.zero_add, List.nil_append])))
    ((first | with_reducible apply Tri.fin | with_reducible apply Tri.finN); (case hr => rfl); (case h => (repeat (first | exact ResL.nil | (apply ResL.cons; (case a => (first | exact Res1.tmp rfl | (apply Res1.cell; rfl; (repeat first | with_reducible exact Pull.head | apply Pull.tail); rfl) | (apply Res1.agg; rfl; (repeat first | with_reducible exact Pull.head | apply Pull.tail); rfl; rfl))))))); (apply fin_R (Hn := [own 98 2 v' n xs])); (case p => (repeat first | exact Pulls.nil | (apply Pulls.cons; repeat first | with_reducible exact Pull.head | apply Pull.tail))))
    simp only [tupled]
  · have hx : xs = [] := hbl rfl
    subst hx
    obtain rfl : n = 0 := by simp at hl; omega
    ((with_reducible refine Tri.nil (Tri.thenN ?_)); (with_reducible apply Tri.condT); rfl; rfl; (with_reducible refine Tri.seq (Tri.region ?_)); (with_reducible apply Tri.op); rfl; (with_reducible apply o_assign); rfl; rfl; (with_reducible refine Tri.nil (Tri.thenN (Tri.ret (Tri.thenR ?_)))))
    (with_reducible apply Tri.ownNil 98 2)
    ((first | with_reducible apply Tri.fin | with_reducible apply Tri.finN); (case hr => rfl); (case h => (repeat (first | exact ResL.nil | (apply ResL.cons; (case a => (first | exact Res1.tmp rfl | (apply Res1.cell; rfl; (repeat first | with_reducible exact Pull.head | apply Pull.tail); rfl) | (apply Res1.agg; rfl; (repeat first | with_reducible exact Pull.head | apply Pull.tail); rfl; rfl))))))); (apply fin_R (Hn := [own 98 2 (.slice none 0 0) 0 []])); (case p => (repeat first | exact Pulls.nil | (apply Pulls.cons; repeat first | with_reducible exact Pull.head | apply Pull.tail))))
    rfl

theorem slices_CloneEntry (v : Value) (n : Nat) (xs : List Value) (hl : xs.length = n * 8) (h1 : ∀ y ∈ xs, y.oneCell' = true) (hb : n ≤ 5000000) : SpecR Try.prog 79 #[v] (fun w => RdW w v n xs) (fun r H' => H' = [own 100 8 r n xs]) := by
  refine SpecR.of (fun w hr => ?_)
  refine Calls.enter Try.func79 rfl rfl rfl (St.rebase w) ?_
  simp only [argSlots]
  ((with_reducible refine Tri.seq (Tri.region ?_)); (with_reducible apply Tri.op); rfl; (with_reducible apply o_assign); rfl; rfl; (with_reducible refine Tri.nil (Tri.thenN (Tri.seq (Tri.seq (Tri.region ?_))))); (with_reducible apply Tri.op); rfl; (with_reducible apply o_move); rfl; rfl; (with_reducible apply Tri.op); rfl)
  ((with_reducible apply o_eqlSN); (case hx => rfl); (case hy => rfl); (case hr => exact rdw_ex (by (repeat first | with_reducible exact Pull.head | apply Pull.tail)) hr); (case hn => rfl))
  intro b hbl
  cases b
  · ((with_reducible refine Tri.nil (Tri.thenN ?_)); (with_reducible apply Tri.condF); rfl; rfl; (with_reducible refine Tri.skip (Tri.thenN (Tri.seq (Tri.region ?_)))); (with_reducible apply Tri.op); rfl)
    ((with_reducible apply o_litSl (ys := [])); (case hp => (repeat first | exact pev.nil | (apply pev.cons; case a => rfl))); (case hm => rfl); (case hf => rfl); (case hn => rfl); intro vr)
    ((with_reducible apply Tri.op); rfl; (with_reducible apply o_move); rfl; rfl; (with_reducible apply Tri.op); rfl)
    ((with_reducible apply o_append); (case hx => rfl); (case hy => rfl); (case p => (repeat first | with_reducible exact Pull.head | apply Pull.tail)); (case hr => exact rdw_ex (by (repeat first | with_reducible exact Pull.head | apply Pull.tail)) hr); (case hl => exact hl); (case h1 => exact h1); (case hb => omega); (case hn => rfl))
    intro v'
    ((with_reducible apply Tri.op); rfl; (with_reducible apply o_assign); rfl; rfl; (with_reducible refine Tri.nil (Tri.thenN (Tri.ret ?_))))
    ((with_reducible apply Tri.eqA (A := own 100 8 v' _ _) (B := own 100 8 v' n xs)); (case p => (repeat first | with_reducible exact Pull.head | apply Pull.tail)); (case e => (rw [Nat.zero_add, List.nil_append])))
    ((first | with_reducible apply Tri.fin | with_reducible apply Tri.finN); (case hr => rfl); (case h => (repeat (first | exact ResL.nil | (apply ResL.cons; (case a => (first | exact Res1.tmp rfl | (apply Res1.cell; rfl; (repeat first | with_reducible exact Pull.head | apply Pull.tail); rfl) | (apply Res1.agg; rfl; (repeat first | with_reducible exact Pull.head | apply Pull.tail); rfl; rfl))))))); (apply fin_R (Hn := [own 100 8 v' n xs])); (case p => (repeat first | exact Pulls.nil | (apply Pulls.cons; repeat first | with_reducible exact Pull.head | apply Pull.tail))))
    simp only [tupled]
  · have hx : xs = [] := hbl rfl
    subst hx
    obtain rfl : n = 0 := by simp at hl; omega
    ((with_reducible refine Tri.nil (Tri.thenN ?_)); (with_reducible apply Tri.condT); rfl; rfl; (with_reducible refine Tri.seq (Tri.region ?_)); (with_reducible apply Tri.op); rfl; (with_reducible apply o_assign); rfl; rfl; (with_reducible refine Tri.nil (Tri.thenN (Tri.ret (Tri.thenR ?_)))))
    (with_reducible apply Tri.ownNil 100 8)
    ((first | with_reducible apply Tri.fin | with_reducible apply Tri.finN); (case hr => rfl); (case h => (repeat (first | exact ResL.nil | (apply ResL.cons; (case a => (first | exact Res1.tmp rfl | (apply Res1.cell; rfl; (repeat first | with_reducible exact Pull.head | apply Pull.tail); rfl) | (apply Res1.agg; rfl; (repeat first | with_reducible exact Pull.head | apply Pull.tail); rfl; rfl))))))); (apply fin_R (Hn := [own 100 8 (.slice none 0 0) 0 []])); (case p => (repeat first | exact Pulls.nil | (apply Pulls.cons; repeat first | with_reducible exact Pull.head | apply Pull.tail))))
    rfl

end Go.Proofs.Ytckdlfbbkemklaa
end
section
/- slices: Grow of nothing, Concat of two, for the elements of a node (printed by mkslices.py). -/
namespace Go.Proofs.Ytckdlfbbkemklaa
open Go Go.RowKit Go.Gv
set_option linter.unusedVariables false
set_option linter.unusedSimpArgs false
theorem nil_rdw (h : PH) : Rd h (.slice none 0 0) 0 [] := ⟨none, 0, rfl, ⟨Nat.le_refl _, Nat.zero_le _⟩, fun j u hu => by simp at hu⟩

theorem slices_Growint (n : Nat) (hb : n ≤ 5000000) : SpecR Try.prog 84 #[.slice none 0 0, .int .i64 (n : Int)] (fun _ => True) (fun r H' => H' = [own 3 1 r 0 []]) := by
  refine SpecR.of (fun w _ => ?_)
  refine Calls.enter Try.func84 rfl rfl rfl (St.rebase w) ?_
  simp only [argSlots]
  ((with_reducible refine Tri.seq (Tri.region ?_)); (with_reducible apply Tri.op); rfl; (with_reducible apply o_assign); rfl; rfl; (with_reducible refine Tri.nil (Tri.thenN (Tri.seq (Tri.seq (Tri.region ?_))))); (with_reducible apply Tri.op); rfl; (with_reducible apply o_move); rfl; rfl; (with_reducible apply Tri.op); rfl; (with_reducible apply o_lss); rfl; rfl; rfl; (with_reducible refine Tri.nil (Tri.thenN ?_)))
  ((with_reducible apply Tri.setb 6 (false)); (case h => rfl); (case hi => exact decide_eq_false (by omega)))
  ((with_reducible apply Tri.condF); rfl; rfl; (with_reducible refine Tri.skip (Tri.thenN (Tri.seq (Tri.seq (Tri.region ?_))))); (with_reducible apply Tri.op); rfl; (with_reducible apply o_move); rfl; rfl; (with_reducible apply Tri.op); rfl; (with_reducible apply o_move); rfl; rfl; (with_reducible apply Tri.op); rfl)
  ((with_reducible apply o_cap); (case hx => rfl); (case hn => rfl))
  ((with_reducible apply Tri.op); rfl; (with_reducible apply o_move); rfl; rfl; (with_reducible apply Tri.op); rfl; (with_reducible apply o_len); rfl; rfl; (with_reducible apply Tri.op); rfl; (with_reducible apply o_sub64); rfl; rfl; rfl; (omega); (with_reducible apply Tri.op); rfl; (with_reducible apply o_sub64); rfl; rfl; rfl; (omega); (with_reducible apply Tri.op); rfl; (with_reducible apply o_assign); rfl; rfl; (with_reducible refine Tri.nil (Tri.thenN (Tri.seq (Tri.region ?_)))); (with_reducible apply Tri.op); rfl; (with_reducible apply o_move); rfl; rfl; (with_reducible apply Tri.op); rfl; (with_reducible apply o_gtr); rfl; rfl; rfl; (with_reducible refine Tri.nil (Tri.thenN ?_)))
  ((with_reducible apply Tri.seti 1 ((n : Int))); (case h => rfl); (case hi => omega))
  skip
  ((first | with_reducible apply Tri.condD | with_reducible apply TriR.condD); (case hc => rfl); (all_goals intro h))
  · ((with_reducible refine Tri.region ?_); (with_reducible apply Tri.op); rfl; (with_reducible apply o_move); rfl; rfl; (with_reducible apply Tri.op); rfl; (with_reducible apply o_move); rfl; rfl; (with_reducible apply Tri.op); rfl)
    ((with_reducible apply o_cap); (case hx => rfl); (case hn => rfl))
    ((with_reducible apply Tri.op); rfl)
    ((with_reducible apply o_slice (lo := 0) (hi := 0)); (case hx => rfl); (case hr => exact fun _ _ => nil_rdw _); (case hol => first | exact fun _ _ => rfl | exact fun a ha => congrArg some (ha.eval rfl)); (case hoh => first | exact fun _ _ => rfl | exact fun a ha => congrArg some (ha.eval rfl)); (case hlo => first | exact .inr ⟨rfl, rfl⟩ | exact .inl ⟨_, rfl⟩ | exact .inl ⟨_, (by congr 2; omega)⟩); (case hhi => first | exact .inr ⟨rfl, rfl⟩ | exact .inl ⟨_, rfl⟩ | exact .inl ⟨_, (by congr 2; omega)⟩); (case hlh => omega); (case hhm => omega); (case hn => rfl))
    ((with_reducible apply Tri.setv 20 ((.slice none 0 0))); (case h => rfl); (case hv => rfl))
    ((with_reducible apply Tri.op); rfl; (with_reducible apply o_move); rfl; rfl; (with_reducible apply Tri.op); rfl)
    (with_reducible apply Tri.ownNil 3 1)
    ((with_reducible apply o_appendN (k := n)); (case hx => rfl); (case hy => rfl); (case hi => rfl); (case p => (repeat first | with_reducible exact Pull.head | apply Pull.tail)); (case h0 => omega); (case hb => omega); (case hn => rfl))
    intro v' zs
    ((with_reducible apply Tri.op); rfl; (with_reducible apply o_move); rfl; rfl; (with_reducible apply Tri.op); rfl; (with_reducible apply o_len); rfl; rfl; (with_reducible apply Tri.op); rfl)
    ((with_reducible apply o_slice (lo := 0) (hi := 0)); (case hx => rfl); (case hr => exact rdw_own (v := v') (by (repeat first | with_reducible exact Pull.head | apply Pull.tail))); (case hol => first | exact fun _ _ => rfl | exact fun a ha => congrArg some (ha.eval rfl)); (case hoh => first | exact fun _ _ => rfl | exact fun a ha => congrArg some (ha.eval rfl)); (case hlo => first | exact .inr ⟨rfl, rfl⟩ | exact .inl ⟨_, rfl⟩ | exact .inl ⟨_, (by congr 2; omega)⟩); (case hhi => first | exact .inr ⟨rfl, rfl⟩ | exact .inl ⟨_, rfl⟩ | exact .inl ⟨_, (by congr 2; omega)⟩); (case hlh => omega); (case hhm => omega); (case hn => rfl))
    ((with_reducible apply Tri.op); rfl; (with_reducible apply o_assign); rfl; rfl; (with_reducible refine Tri.nil (Tri.thenN (Tri.seq (Tri.region ?_)))); (with_reducible apply Tri.op); rfl; (with_reducible apply o_move); rfl; rfl; (with_reducible apply Tri.op); rfl; (with_reducible apply o_assign); rfl; rfl; (with_reducible refine Tri.nil (Tri.thenN (Tri.ret ?_))))
    refine Tri.ownCut (v := v') (e := 3) (size := 1) 0 (by (repeat first | with_reducible exact Pull.head | apply Pull.tail)) (Nat.zero_le _) ?_
    ((with_reducible apply Tri.eqA (A := own 3 1 (subv v' 1 0 0) 0 _) (B := own 3 1 (subv v' 1 0 0) 0 [])); (case p => (repeat first | with_reducible exact Pull.head | apply Pull.tail)); (case e => (rw [Nat.zero_mul, List.take_zero])))
    ((first | with_reducible apply Tri.fin | with_reducible apply Tri.finN); (case hr => rfl); (case h => (repeat (first | exact ResL.nil | (apply ResL.cons; (case a => (first | exact Res1.tmp rfl | (apply Res1.cell; rfl; (repeat first | with_reducible exact Pull.head | apply Pull.tail); rfl) | (apply Res1.agg; rfl; (repeat first | with_reducible exact Pull.head | apply Pull.tail); rfl; rfl))))))); (apply fin_R (Hn := [own 3 1 (subv v' 1 0 0) 0 []])); (case p => (repeat first | exact Pulls.nil | (apply Pulls.cons; repeat first | with_reducible exact Pull.head | apply Pull.tail))))
    rfl
  · obtain rfl : n = 0 := by omega
    ((with_reducible refine Tri.skip (Tri.thenN (Tri.seq (Tri.region ?_)))); (with_reducible apply Tri.op); rfl; (with_reducible apply o_move); rfl; rfl; (with_reducible apply Tri.op); rfl; (with_reducible apply o_assign); rfl; rfl; (with_reducible refine Tri.nil (Tri.thenN (Tri.ret ?_))))
    (with_reducible apply Tri.ownNil 3 1)
    ((first | with_reducible apply Tri.fin | with_reducible apply Tri.finN); (case hr => rfl); (case h => (repeat (first | exact ResL.nil | (apply ResL.cons; (case a => (first | exact Res1.tmp rfl | (apply Res1.cell; rfl; (repeat first | with_reducible exact Pull.head | apply Pull.tail); rfl) | (apply Res1.agg; rfl; (repeat first | with_reducible exact Pull.head | apply Pull.tail); rfl; rfl))))))); (apply fin_R (Hn := [own 3 1 (.slice none 0 0) 0 []])); (case p => (repeat first | exact Pulls.nil | (apply Pulls.cons; repeat first | with_reducible exact Pull.head | apply Pull.tail))))
    rfl

theorem slices_GrowKey (n : Nat) (hb : n ≤ 5000000) : SpecR Try.prog 83 #[.slice none 0 0, .int .i64 (n : Int)] (fun _ => True) (fun r H' => H' = [own 98 2 r 0 []]) := by
  refine SpecR.of (fun w _ => ?_)
  refine Calls.enter Try.func83 rfl rfl rfl (St.rebase w) ?_
  simp only [argSlots]
  ((with_reducible refine Tri.seq (Tri.region ?_)); (with_reducible apply Tri.op); rfl; (with_reducible apply o_assign); rfl; rfl; (with_reducible refine Tri.nil (Tri.thenN (Tri.seq (Tri.seq (Tri.region ?_))))); (with_reducible apply Tri.op); rfl; (with_reducible apply o_move); rfl; rfl; (with_reducible apply Tri.op); rfl; (with_reducible apply o_lss); rfl; rfl; rfl; (with_reducible refine Tri.nil (Tri.thenN ?_)))
  ((with_reducible apply Tri.setb 6 (false)); (case h => rfl); (case hi => exact decide_eq_false (by omega)))
  ((with_reducible apply Tri.condF); rfl; rfl; (with_reducible refine Tri.skip (Tri.thenN (Tri.seq (Tri.seq (Tri.region ?_))))); (with_reducible apply Tri.op); rfl; (with_reducible apply o_move); rfl; rfl; (with_reducible apply Tri.op); rfl; (with_reducible apply o_move); rfl; rfl; (with_reducible apply Tri.op); rfl)
  ((with_reducible apply o_cap); (case hx => rfl); (case hn => rfl))
  ((with_reducible apply Tri.op); rfl; (with_reducible apply o_move); rfl; rfl; (with_reducible apply Tri.op); rfl; (with_reducible apply o_len); rfl; rfl; (with_reducible apply Tri.op); rfl; (with_reducible apply o_sub64); rfl; rfl; rfl; (omega); (with_reducible apply Tri.op); rfl; (with_reducible apply o_sub64); rfl; rfl; rfl; (omega); (with_reducible apply Tri.op); rfl; (with_reducible apply o_assign); rfl; rfl; (with_reducible refine Tri.nil (Tri.thenN (Tri.seq (Tri.region ?_)))); (with_reducible apply Tri.op); rfl; (with_reducible apply o_move); rfl; rfl; (with_reducible apply Tri.op); rfl; (with_reducible apply o_gtr); rfl; rfl; rfl; (with_reducible refine Tri.nil (Tri.thenN ?_)))
  ((with_reducible apply Tri.seti 1 ((n : Int))); (case h => rfl); (case hi => omega))
  skip
  ((first | with_reducible apply Tri.condD | with_reducible apply TriR.condD); (case hc => rfl); (all_goals intro h))
  · ((with_reducible refine Tri.region ?_); (with_reducible apply Tri.op); rfl; (with_reducible apply o_move); rfl; rfl; (with_reducible apply Tri.op); rfl; (with_reducible apply o_move); rfl; rfl; (with_reducible apply Tri.op); rfl)
    ((with_reducible apply o_cap); (case hx => rfl); (case hn => rfl))
    ((with_reducible apply Tri.op); rfl)
    ((with_reducible apply o_slice (lo := 0) (hi := 0)); (case hx => rfl); (case hr => exact fun _ _ => nil_rdw _); (case hol => first | exact fun _ _ => rfl | exact fun a ha => congrArg some (ha.eval rfl)); (case hoh => first | exact fun _ _ => rfl | exact fun a ha => congrArg some (ha.eval rfl)); (case hlo => first | exact .inr ⟨rfl, rfl⟩ | exact .inl ⟨_, rfl⟩ | exact .inl ⟨_, (by congr 2; omega)⟩); (case hhi => first | exact .inr ⟨rfl, rfl⟩ | exact .inl ⟨_, rfl⟩ | exact .inl ⟨_, (by congr 2; omega)⟩); (case hlh => omega); (case hhm => omega); (case hn => rfl))
    ((with_reducible apply Tri.setv 20 ((.slice none 0 0))); (case h => rfl); (case hv => rfl))
    ((with_reducible apply Tri.op); rfl; (with_reducible apply o_move); rfl; rfl; (with_reducible apply Tri.op); rfl)
    (with_reducible apply Tri.ownNil 98 2)
    ((with_reducible apply o_appendN (k := n)); (case hx => rfl); (case hy => rfl); (case hi => rfl); (case p => (repeat first | with_reducible exact Pull.head | apply Pull.tail)); (case h0 => omega); (case hb => omega); (case hn => rfl))
    intro v' zs
    ((with_reducible apply Tri.op); rfl; (with_reducible apply o_move); rfl; rfl; (with_reducible apply Tri.op); rfl; (with_reducible apply o_len); rfl; rfl; (with_reducible apply Tri.op); rfl)
    ((with_reducible apply o_slice (lo := 0) (hi := 0)); (case hx => rfl); (case hr => exact rdw_own (v := v') (by (repeat first | with_reducible exact Pull.head | apply Pull.tail))); (case hol => first | exact fun _ _ => rfl | exact fun a ha => congrArg some (ha.eval rfl)); (case hoh => first | exact fun _ _ => rfl | exact fun a ha => congrArg some (ha.eval rfl)); (case hlo => first | exact .inr ⟨rfl, rfl⟩ | exact .inl ⟨_, rfl⟩ | exact .inl ⟨_, (by congr 2; omega)⟩); (case hhi => first | exact .inr ⟨rfl, rfl⟩ | exact .inl ⟨_, rfl⟩ | exact .inl ⟨_, (by congr 2; omega)⟩); (case hlh => omega); (case hhm => omega); (case hn => rfl))
    ((with_reducible apply Tri.op); rfl; (with_reducible apply o_assign); rfl; rfl; (with_reducible refine Tri.nil (Tri.thenN (Tri.seq (Tri.region ?_)))); (with_reducible apply Tri.op); rfl; (with_reducible apply o_move); rfl; rfl; (with_reducible apply Tri.op); rfl; (with_reducible apply o_assign); rfl; rfl; (with_reducible refine Tri.nil (Tri.thenN (Tri.ret ?_))))
    refine Tri.ownCut (v := v') (e := 98) (size := 2) 0 (by (repeat first | with_reducible exact Pull.head | apply Pull.tail)) (Nat.zero_le _) ?_
    ((with_reducible apply Tri.eqA (A := own 98 2 (subv v' 2 0 0) 0 _) (B := own 98 2 (subv v' 2 0 0) 0 [])); (case p => (repeat first | with_reducible exact Pull.head | apply Pull.tail)); (case e => (rw [Nat.zero_mul, List.take_zero])))
    ((first | with_reducible apply Tri.fin | with_reducible apply Tri.finN); (case hr => rfl); (case h => (repeat (first | exact ResL.nil | (apply ResL.cons; (case a => (first | exact Res1.tmp rfl | (apply Res1.cell; rfl; (repeat first | with_reducible exact Pull.head | apply Pull.tail); rfl) | (apply Res1.agg; rfl; (repeat first | with_reducible exact Pull.head | apply Pull.tail); rfl; rfl))))))); (apply fin_R (Hn := [own 98 2 (subv v' 2 0 0) 0 []])); (case p => (repeat first | exact Pulls.nil | (apply Pulls.cons; repeat first | with_reducible exact Pull.head | apply Pull.tail))))
    rfl
  · obtain rfl : n = 0 := by omega
    ((with_reducible refine Tri.skip (Tri.thenN (Tri.seq (Tri.region ?_)))); (with_reducible apply Tri.op); rfl; (with_reducible apply o_move); rfl; rfl; (with_reducible apply Tri.op); rfl; (with_reducible apply o_assign); rfl; rfl; (with_reducible refine Tri.nil (Tri.thenN (Tri.ret ?_))))
    (with_reducible apply Tri.ownNil 98 2)
    ((first | with_reducible apply Tri.fin | with_reducible apply Tri.finN); (case hr => rfl); (case h => (repeat (first | exact ResL.nil | (apply ResL.cons; (case a => (first | exact Res1.tmp rfl | (apply Res1.cell; rfl; (repeat first | with_reducible exact Pull.head | apply Pull.tail); rfl) | (apply Res1.agg; rfl; (repeat first | with_reducible exact Pull.head | apply Pull.tail); rfl; rfl))))))); (apply fin_R (Hn := [own 98 2 (.slice none 0 0) 0 []])); (case p => (repeat first | exact Pulls.nil | (apply Pulls.cons; repeat first | with_reducible exact Pull.head | apply Pull.tail))))
    rfl

theorem slices_GrowEntry (n : Nat) (hb : n ≤ 5000000) : SpecR Try.prog 82 #[.slice none 0 0, .int .i64 (n : Int)] (fun _ => True) (fun r H' => H' = [own 100 8 r 0 []]) := by
  refine SpecR.of (fun w _ => ?_)
  refine Calls.enter Try.func82 rfl rfl rfl (St.rebase w) ?_
  simp only [argSlots]
  ((with_reducible refine Tri.seq (Tri.region ?_)); (with_reducible apply Tri.op); rfl; (with_reducible apply o_assign); rfl; rfl; (with_reducible refine Tri.nil (Tri.thenN (Tri.seq (Tri.seq (Tri.region ?_))))); (with_reducible apply Tri.op); rfl; (with_reducible apply o_move); rfl; rfl; (with_reducible apply Tri.op); rfl; (with_reducible apply o_lss); rfl; rfl; rfl; (with_reducible refine Tri.nil (Tri.thenN ?_)))
  ((with_reducible apply Tri.setb 6 (false)); (case h => rfl); (case hi => exact decide_eq_false (by omega)))
  ((with_reducible apply Tri.condF); rfl; rfl; (with_reducible refine Tri.skip (Tri.thenN (Tri.seq (Tri.seq (Tri.region ?_))))); (with_reducible apply Tri.op); rfl; (with_reducible apply o_move); rfl; rfl; (with_reducible apply Tri.op); rfl; (with_reducible apply o_move); rfl; rfl; (with_reducible apply Tri.op); rfl)
  ((with_reducible apply o_cap); (case hx => rfl); (case hn => rfl))
  ((with_reducible apply Tri.op); rfl; (with_reducible apply o_move); rfl; rfl; (with_reducible apply Tri.op); rfl; (with_reducible apply o_len); rfl; rfl; (with_reducible apply Tri.op); rfl; (with_reducible apply o_sub64); rfl; rfl; rfl; (omega); (with_reducible apply Tri.op); rfl; (with_reducible apply o_sub64); rfl; rfl; rfl; (omega); (with_reducible apply Tri.op); rfl; (with_reducible apply o_assign); rfl; rfl; (with_reducible refine Tri.nil (Tri.thenN (Tri.seq (Tri.region ?_)))); (with_reducible apply Tri.op); rfl; (with_reducible apply o_move); rfl; rfl; (with_reducible apply Tri.op); rfl; (with_reducible apply o_gtr); rfl; rfl; rfl; (with_reducible refine Tri.nil (Tri.thenN ?_)))
  ((with_reducible apply Tri.seti 1 ((n : Int))); (case h => rfl); (case hi => omega))
  skip
  ((first | with_reducible apply Tri.condD | with_reducible apply TriR.condD); (case hc => rfl); (all_goals intro h))
  · ((with_reducible refine Tri.region ?_); (with_reducible apply Tri.op); rfl; (with_reducible apply o_move); rfl; rfl; (with_reducible apply Tri.op); rfl; (with_reducible apply o_move); rfl; rfl; (with_reducible apply Tri.op); rfl)
    ((with_reducible apply o_cap); (case hx => rfl); (case hn => rfl))
    ((with_reducible apply Tri.op); rfl)
    ((with_reducible apply o_slice (lo := 0) (hi := 0)); (case hx => rfl); (case hr => exact fun _ _ => nil_rdw _); (case hol => first | exact fun _ _ => rfl | exact fun a ha => congrArg some (ha.eval rfl)); (case hoh => first | exact fun _ _ => rfl | exact fun a ha => congrArg some (ha.eval rfl)); (case hlo => first | exact .inr ⟨rfl, rfl⟩ | exact .inl ⟨_, rfl⟩ | exact .inl ⟨_, (by congr 2; omega)⟩); (case hhi => first | exact .inr ⟨rfl, rfl⟩ | exact .inl ⟨_, rfl⟩ | exact .inl ⟨_, (by congr 2; omega)⟩); (case hlh => omega); (case hhm => omega); (case hn => rfl))
    ((with_reducible apply Tri.setv 20 ((.slice none 0 0))); (case h => rfl); (case hv => rfl))
    ((with_reducible apply Tri.op); rfl; (with_reducible apply o_move); rfl; rfl; (with_reducible apply Tri.op); rfl)
    (with_reducible apply Tri.ownNil 100 8)
    ((with_reducible apply o_appendN (k := n)); (case hx => rfl); (case hy => rfl); (case hi => rfl); (case p => (repeat first | with_reducible exact Pull.head | apply Pull.tail)); (case h0 => omega); (case hb => omega); (case hn => rfl))
    intro v' zs
    ((with_reducible apply Tri.op); rfl; (with_reducible apply o_move); rfl; rfl; (with_reducible apply Tri.op); rfl; (with_reducible apply o_len); rfl; rfl; (with_reducible apply Tri.op); rfl)
    ((with_reducible apply o_slice (lo := 0) (hi := 0)); (case hx => rfl); (case hr => exact rdw_own (v := v') (by (repeat first | with_reducible exact Pull.head | apply Pull.tail))); (case hol => first | exact fun _ _ => rfl | exact fun a ha => congrArg some (ha.eval rfl)); (case hoh => first | exact fun _ _ => rfl | exact fun a ha => congrArg some (ha.eval rfl)); (case hlo => first | exact .inr ⟨rfl, rfl⟩ | exact .inl ⟨_, rfl⟩ | exact .inl ⟨_, (by congr 2; omega)⟩); (case hhi => first | exact .inr ⟨rfl, rfl⟩ | exact .inl ⟨_, rfl⟩ | exact .inl ⟨_, (by congr 2; omega)⟩); (case hlh => omega); (case hhm => omega); (case hn => rfl))
    ((with_reducible apply Tri.op); rfl; (with_reducible apply o_assign); rfl; rfl; (with_reducible refine Tri.nil (Tri.thenN (Tri.seq (Tri.region ?_)))); (with_reducible apply Tri.op); rfl; (with_reducible apply o_move); rfl; rfl; (with_reducible apply Tri.op); rfl; (with_reducible apply o_assign); rfl; rfl; (with_reducible refine Tri.nil (Tri.thenN (Tri.ret ?_))))
    refine Tri.ownCut (v := v') (e := 100) (size := 8) 0 (by (repeat first | with_reducible exact Pull.head | apply Pull.tail)) (Nat.zero_le _) ?_
    ((with_reducible apply Tri.eqA (A := own 100 8 (subv v' 8 0 0) 0 _) (B := own 100 8 (subv v' 8 0 0) 0 [])); (case p => (repeat first | with_reducible exact Pull.head | apply Pull.tail)); (case e => (rw [Nat.zero_mul, List.take_zero])))
    ((first | with_reducible apply Tri.fin | with_reducible apply Tri.finN); (case hr => rfl); (case h => (repeat (first | exact ResL.nil | (apply ResL.cons; (case a => (first | exact Res1.tmp rfl | (apply Res1.cell; rfl; (repeat first | with_reducible exact Pull.head | apply Pull.tail); rfl) | (apply Res1.agg; rfl; (repeat first | with_reducible exact Pull.head | apply Pull.tail); rfl; rfl))))))); (apply fin_R (Hn := [own 100 8 (subv v' 8 0 0) 0 []])); (case p => (repeat first | exact Pulls.nil | (apply Pulls.cons; repeat first | with_reducible exact Pull.head | apply Pull.tail))))
    rfl
  · obtain rfl : n = 0 := by omega
    ((with_reducible refine Tri.skip (Tri.thenN (Tri.seq (Tri.region ?_)))); (with_reducible apply Tri.op); rfl; (with_reducible apply o_move); rfl; rfl; (with_reducible apply Tri.op); rfl; (with_reducible apply o_assign); rfl; rfl; (with_reducible refine Tri.nil (Tri.thenN (Tri.ret ?_))))
    (with_reducible apply Tri.ownNil 100 8)
    ((first | with_reducible apply Tri.fin | with_reducible apply Tri.finN); (case hr => rfl); (case h => (repeat (first | exact ResL.nil | (apply ResL.cons; (case a => (first | exact Res1.tmp rfl | (apply Res1.cell; rfl; (repeat first | with_reducible exact Pull.head | apply Pull.tail); rfl) | (apply Res1.agg; rfl; (repeat first | with_reducible exact Pull.head | apply Pull.tail); rfl; rfl))))))); (apply fin_R (Hn := [own 100 8 (.slice none 0 0) 0 []])); (case p => (repeat first | exact Pulls.nil | (apply Pulls.cons; repeat first | with_reducible exact Pull.head | apply Pull.tail))))
    rfl

end Go.Proofs.Ytckdlfbbkemklaa
end
section
/- slices: Concat of two, for the elements of a node (printed by mkslices.py). -/
namespace Go.Proofs.Ytckdlfbbkemklaa
open Go Go.RowKit Go.Gv
set_option linter.unusedVariables false
set_option linter.unusedSimpArgs false
def s3 (a b : Nat) : Nat → Nat
  | 0 => 0
  | 1 => a
  | _ => a + b
def x3 {α : Type} (a b : List α) : Nat → List α
  | 0 => []
  | 1 => a
  | _ => a ++ b
theorem two_of {h : PH} {v1 v2 : Value} {n1 n2 size : Nat} {xs1 xs2 : List Value} (r1 : Rd h v1 n1 xs1) (r2 : Rd h v2 n2 xs2) (l1 : xs1.length = n1 * size) (l2 : xs2.length = n2 * size) (o1 : ∀ y ∈ xs1, y.oneCell' = true) (o2 : ∀ y ∈ xs2, y.oneCell' = true) (i : Nat) (hi : i < 2) :
    ∃ v n xs, [v1, v2][i * 1]? = some v ∧ Rd h v n xs ∧ xs.length = n * size ∧ (∀ y ∈ xs, y.oneCell' = true) ∧ s3 n1 n2 (i + 1) = s3 n1 n2 i + n ∧ x3 xs1 xs2 (i + 1) = x3 xs1 xs2 i ++ xs ∧ s3 n1 n2 i + n ≤ n1 + n2 := by
  match i, hi with
  | 0, _ => exact ⟨v1, n1, xs1, rfl, r1, l1, o1, (by show n1 = 0 + n1; omega), rfl, (by show 0 + n1 ≤ n1 + n2; omega)⟩
  | 1, _ => exact ⟨v2, n2, xs2, rfl, r2, l2, o2, rfl, rfl, Nat.le_refl _⟩

set_option maxHeartbeats 1000000 in
theorem slices_Concatint (v v1 v2 : Value) (n1 n2 : Nat) (xs1 xs2 : List Value) (l1 : xs1.length = n1 * 1) (l2 : xs2.length = n2 * 1) (o1 : ∀ y ∈ xs1, y.oneCell' = true) (o2 : ∀ y ∈ xs2, y.oneCell' = true) (hb : n1 + n2 ≤ 5000000) : SpecR Try.prog 52 #[v] (fun w => RdW w v 2 [v1, v2] ∧ RdW w v1 n1 xs1 ∧ RdW w v2 n2 xs2) (fun r H' => H' = [own 3 1 r (n1 + n2) (xs1 ++ xs2)]) := by
  refine SpecR.of (fun w hr => ?_)
  obtain ⟨hrv, hr1, hr2⟩ := hr
  have hw2 : [v1, v2].length = 2 * 1 := rfl
  refine Calls.enter Try.func52 rfl rfl rfl (St.rebase w) ?_
  simp only [argSlots]
  ((with_reducible refine Tri.seq (Tri.region ?_)); (with_reducible apply Tri.op); rfl; (with_reducible apply o_assign); rfl; rfl; (with_reducible refine Tri.nil (Tri.thenN (Tri.seq (Tri.region ?_)))); (with_reducible apply Tri.op); rfl; (with_reducible apply o_assign); rfl; rfl; (with_reducible refine Tri.nil (Tri.thenN (Tri.seq (Tri.seq (Tri.region ?_))))); (with_reducible apply Tri.op); rfl; (with_reducible apply o_move); rfl; rfl; (with_reducible apply Tri.op); rfl)
  ((with_reducible apply o_lenRd (hr := hrv)); (case hx => rfl); (case hn => rfl))
  ((with_reducible apply Tri.op); rfl; (with_reducible apply o_move); rfl; rfl; (with_reducible refine Tri.nil (Tri.thenN (Tri.block ?_))))
  ((first | with_reducible apply Tri.loop (α := { i : Nat // i ≤ 2 }) (m := fun x => 2 - x.1) (Lx := fun x => [(0, v), (2, .slice none 0 0), (3, .int .i64 (s3 n1 n2 x.1 : Int)), (9, v), (10, .int .i64 ((2 : Nat) : Int)), (11, .int .i64 (x.1 : Int))]) (Hx := fun x => [Ex (hp w)]) (x0 := ⟨0, Nat.zero_le _⟩) | with_reducible apply TriR.loop (α := { i : Nat // i ≤ 2 }) (m := fun x => 2 - x.1) (Lx := fun x => [(0, v), (2, .slice none 0 0), (3, .int .i64 (s3 n1 n2 x.1 : Int)), (9, v), (10, .int .i64 ((2 : Nat) : Int)), (11, .int .i64 (x.1 : Int))]) (Hx := fun x => [Ex (hp w)]) (x0 := ⟨0, Nat.zero_le _⟩)); (case hL => ((try dsimp only); (repeat (first | exact trivial | refine And.intro (by rfl) ?_)))); (case hH => ((try dsimp only); apply St.all; (repeat first | exact Pulls.nil | (apply Pulls.cons; repeat first | with_reducible exact Pull.head | apply Pull.tail))))); (rintro ⟨i, hi⟩ mx hmx; (try dsimp only at hmx ⊢))
  ((with_reducible refine Tri.seq (Tri.region ?_)); (with_reducible apply Tri.op); rfl; (with_reducible apply o_lss); rfl; rfl; rfl; (with_reducible refine Tri.nil (Tri.thenN (Tri.seq ?_))))
  ((first | with_reducible apply Tri.condD | with_reducible apply TriR.condD); (case hc => rfl); (all_goals intro h))
  · have hi2 : i < 2 := by omega
    obtain ⟨vi, ni, xi, hg, hri, hli, hoi, hs, hx, hbi⟩ := two_of hr1 hr2 l1 l2 o1 o2 i hi2
    have hi3 : i + 1 ≤ 2 := by omega
    ((with_reducible refine Tri.skip (Tri.thenN (Tri.seq (Tri.block (Tri.seq (Tri.region ?_)))))); (with_reducible apply Tri.op); rfl)
    ((with_reducible apply o_ixRd (hr := hrv) (j := i)); (case hx => rfl); (case hy => rfl); (case hj => rfl); (case hlt => omega); (case hl => (rw [hw2]; omega)); (case hn => rfl))
    ((with_reducible apply Tri.op); rfl)
    ((with_reducible apply o_loadRd (hr := hrv)); (case hx => rfl); (case p => (repeat first | with_reducible exact Pull.head | apply Pull.tail)); (case hv => exact hg); (case hn => rfl))
    ((with_reducible apply Tri.op); rfl; (with_reducible apply o_assign); rfl; rfl; (with_reducible refine Tri.nil (Tri.thenN (Tri.seq (Tri.region ?_)))); (with_reducible apply Tri.op); rfl; (with_reducible apply o_move); rfl; rfl; (with_reducible apply Tri.op); rfl; (with_reducible apply o_move); rfl; rfl; (with_reducible apply Tri.op); rfl)
    ((with_reducible apply o_lenRd (hr := hri)); (case hx => rfl); (case hn => rfl))
    ((with_reducible apply Tri.op); rfl; (with_reducible apply o_add64); rfl; rfl; rfl; (omega); (with_reducible apply Tri.op); rfl; (with_reducible apply o_assign); rfl; rfl; (with_reducible refine Tri.nil (Tri.thenN (Tri.seq (Tri.region ?_)))); (with_reducible apply Tri.op); rfl; (with_reducible apply o_move); rfl; rfl; (with_reducible apply Tri.op); rfl; (with_reducible apply o_lss); rfl; rfl; rfl; (with_reducible refine Tri.nil (Tri.thenN ?_)))
    ((with_reducible apply Tri.seti 3 ((s3 n1 n2 (i + 1) : Int))); (case h => rfl); (case hi => (rw [hs]; first | omega | (rw [wrap_i64 (by omega)]; omega))))
    ((with_reducible apply Tri.setb 20 (false)); (case h => rfl); (case hi => exact decide_eq_false (by omega)))
    ((with_reducible apply Tri.condF); rfl; rfl; (with_reducible refine Tri.skip (Tri.blockN (Tri.thenN (Tri.region ?_)))); (with_reducible apply Tri.op); rfl; (with_reducible apply o_add64); rfl; rfl; rfl; (omega); (with_reducible apply Tri.op); rfl; (with_reducible apply o_move); rfl; rfl; (with_reducible refine Tri.nil (Tri.thenN ?_)))
    ((with_reducible apply Tri.seti 11 (((i + 1 : Nat) : Int))); (case h => rfl); (case hi => omega))
    ((with_reducible apply Tri.again (y := ⟨i + 1, hi3⟩)); (case p => ((try dsimp only); (repeat first | exact Pulls.nil | (apply Pulls.cons; repeat first | with_reducible exact Pull.head | apply Pull.tail)))); (case hm => ((try dsimp only); omega)); (try dsimp only))
    (repeat (first | exact trivial | refine And.intro (by rfl) ?_))
  · obtain rfl : i = 2 := by omega
    have hs2 : s3 n1 n2 2 = n1 + n2 := rfl
    rw [hs2]
    ((with_reducible refine Tri.exit (Tri.thenE (Tri.thenE (Tri.blockE (Tri.thenN (Tri.seq (Tri.region ?_))))))); (with_reducible apply Tri.op); rfl; (with_reducible apply o_move); rfl; rfl; (with_reducible apply Tri.op); rfl)
    ((with_reducible apply o_callR (hs := slices_Growint (n1 + n2) hb)); (case hargs => (repeat first | exact evs.nil | (apply evs.cons; case a => rfl))); (case hpre => exact fun _ _ => trivial); (case hn => rfl))
    rintro u0 H0 rfl
    (try dsimp only [List.cons_append, List.nil_append])
    ((with_reducible apply Tri.op); rfl; (with_reducible apply o_assign); rfl; rfl; (with_reducible refine Tri.nil (Tri.thenN (Tri.seq (Tri.seq (Tri.region ?_))))); (with_reducible apply Tri.op); rfl; (with_reducible apply o_move); rfl; rfl; (with_reducible apply Tri.op); rfl)
    ((with_reducible apply o_lenRd (hr := hrv)); (case hx => rfl); (case hn => rfl))
    ((with_reducible apply Tri.op); rfl; (with_reducible apply o_move); rfl; rfl; (with_reducible refine Tri.nil (Tri.thenN (Tri.block ?_))))
    ((with_reducible apply Tri.eqA (A := own 3 1 u0 0 []) (B := own 3 1 u0 (s3 n1 n2 0) (x3 xs1 xs2 0))); (case p => (repeat first | with_reducible exact Pull.head | apply Pull.tail)); (case e => rfl))
    ((first | with_reducible apply Tri.loop (α := Σ' (i : Nat) (u : Value), i ≤ 2) (m := fun x => 2 - x.1) (Lx := fun x => [(2, .slice none 0 0), (6, x.2.1), (25, v), (26, .int .i64 ((2 : Nat) : Int)), (27, .int .i64 (x.1 : Int))]) (Hx := fun x => [own 3 1 x.2.1 (s3 n1 n2 x.1) (x3 xs1 xs2 x.1), Ex (hp w)]) (x0 := ⟨0, u0, Nat.zero_le _⟩) | with_reducible apply TriR.loop (α := Σ' (i : Nat) (u : Value), i ≤ 2) (m := fun x => 2 - x.1) (Lx := fun x => [(2, .slice none 0 0), (6, x.2.1), (25, v), (26, .int .i64 ((2 : Nat) : Int)), (27, .int .i64 (x.1 : Int))]) (Hx := fun x => [own 3 1 x.2.1 (s3 n1 n2 x.1) (x3 xs1 xs2 x.1), Ex (hp w)]) (x0 := ⟨0, u0, Nat.zero_le _⟩)); (case hL => ((try dsimp only); (repeat (first | exact trivial | refine And.intro (by rfl) ?_)))); (case hH => ((try dsimp only); apply St.all; (repeat first | exact Pulls.nil | (apply Pulls.cons; repeat first | with_reducible exact Pull.head | apply Pull.tail))))); (rintro ⟨i, u, hi⟩ mx hmx; (try dsimp only at hmx ⊢))
    ((with_reducible refine Tri.seq (Tri.region ?_)); (with_reducible apply Tri.op); rfl; (with_reducible apply o_lss); rfl; rfl; rfl; (with_reducible refine Tri.nil (Tri.thenN (Tri.seq ?_))))
    ((first | with_reducible apply Tri.condD | with_reducible apply TriR.condD); (case hc => rfl); (all_goals intro h2))
    · have hi2 : i < 2 := by omega
      obtain ⟨vi, ni, xi, hg, hri, hli, hoi, hs, hx, hbi⟩ := two_of hr1 hr2 l1 l2 o1 o2 i hi2
      have hi3 : i + 1 ≤ 2 := by omega
      ((with_reducible refine Tri.skip (Tri.thenN (Tri.seq (Tri.block (Tri.seq (Tri.region ?_)))))); (with_reducible apply Tri.op); rfl)
      ((with_reducible apply o_ixRd (hr := hrv) (j := i)); (case hx => rfl); (case hy => rfl); (case hj => rfl); (case hlt => omega); (case hl => (rw [hw2]; omega)); (case hn => rfl))
      ((with_reducible apply Tri.op); rfl)
      ((with_reducible apply o_loadRd (hr := hrv)); (case hx => rfl); (case p => (repeat first | with_reducible exact Pull.head | apply Pull.tail)); (case hv => exact hg); (case hn => rfl))
      ((with_reducible apply Tri.op); rfl; (with_reducible apply o_assign); rfl; rfl; (with_reducible refine Tri.nil (Tri.thenN (Tri.region ?_))); (with_reducible apply Tri.op); rfl; (with_reducible apply o_move); rfl; rfl; (with_reducible apply Tri.op); rfl; (with_reducible apply o_move); rfl; rfl; (with_reducible apply Tri.op); rfl)
      ((with_reducible apply o_append); (case hx => rfl); (case hy => rfl); (case p => (repeat first | with_reducible exact Pull.head | apply Pull.tail)); (case hr => exact rdw_ex (by (repeat first | with_reducible exact Pull.head | apply Pull.tail)) hri); (case hl => exact hli); (case h1 => exact hoi); (case hb => omega); (case hn => rfl))
      intro u'
      ((with_reducible apply Tri.op); rfl; (with_reducible apply o_assign); rfl; rfl; (with_reducible refine Tri.nil (Tri.blockN (Tri.thenN (Tri.region ?_)))); (with_reducible apply Tri.op); rfl; (with_reducible apply o_add64); rfl; rfl; rfl; (omega); (with_reducible apply Tri.op); rfl; (with_reducible apply o_move); rfl; rfl; (with_reducible refine Tri.nil (Tri.thenN ?_)))
      ((with_reducible apply Tri.eqA (A := own 3 1 u' _ _) (B := own 3 1 u' (s3 n1 n2 (i + 1)) (x3 xs1 xs2 (i + 1)))); (case p => (repeat first | with_reducible exact Pull.head | apply Pull.tail)); (case e => (rw [hs, hx])))
      ((with_reducible apply Tri.seti 27 (((i + 1 : Nat) : Int))); (case h => rfl); (case hi => omega))
      ((with_reducible apply Tri.again (y := ⟨i + 1, u', hi3⟩)); (case p => ((try dsimp only); (repeat first | exact Pulls.nil | (apply Pulls.cons; repeat first | with_reducible exact Pull.head | apply Pull.tail)))); (case hm => ((try dsimp only); omega)); (try dsimp only))
      (repeat (first | exact trivial | refine And.intro (by rfl) ?_))
    · obtain rfl : i = 2 := by omega
      ((with_reducible refine Tri.exit (Tri.thenE (Tri.thenE (Tri.blockE (Tri.thenN (Tri.seq (Tri.region ?_))))))); (with_reducible apply Tri.op); rfl; (with_reducible apply o_move); rfl; rfl; (with_reducible apply Tri.op); rfl; (with_reducible apply o_assign); rfl; rfl; (with_reducible refine Tri.nil (Tri.thenN (Tri.ret ?_))))
      ((with_reducible apply Tri.eqA (A := own 3 1 u _ _) (B := own 3 1 u (n1 + n2) (xs1 ++ xs2))); (case p => (repeat first | with_reducible exact Pull.head | apply Pull.tail)); (case e => rfl))
      ((first | with_reducible apply Tri.fin | with_reducible apply Tri.finN); (case hr => rfl); (case h => (repeat (first | exact ResL.nil | (apply ResL.cons; (case a => (first | exact Res1.tmp rfl | (apply Res1.cell; rfl; (repeat first | with_reducible exact Pull.head | apply Pull.tail); rfl) | (apply Res1.agg; rfl; (repeat first | with_reducible exact Pull.head | apply Pull.tail); rfl; rfl))))))); (apply fin_R (Hn := [own 3 1 u (n1 + n2) (xs1 ++ xs2)])); (case p => (repeat first | exact Pulls.nil | (apply Pulls.cons; repeat first | with_reducible exact Pull.head | apply Pull.tail))))
      rfl

set_option maxHeartbeats 1000000 in
theorem slices_ConcatKey (v v1 v2 : Value) (n1 n2 : Nat) (xs1 xs2 : List Value) (l1 : xs1.length = n1 * 2) (l2 : xs2.length = n2 * 2) (o1 : ∀ y ∈ xs1, y.oneCell' = true) (o2 : ∀ y ∈ xs2, y.oneCell' = true) (hb : n1 + n2 ≤ 5000000) : SpecR Try.prog 51 #[v] (fun w => RdW w v 2 [v1, v2] ∧ RdW w v1 n1 xs1 ∧ RdW w v2 n2 xs2) (fun r H' => H' = [own 98 2 r (n1 + n2) (xs1 ++ xs2)]) := by
  refine SpecR.of (fun w hr => ?_)
  obtain ⟨hrv, hr1, hr2⟩ := hr
  have hw2 : [v1, v2].length = 2 * 1 := rfl
  refine Calls.enter Try.func51 rfl rfl rfl (St.rebase w) ?_
  simp only [argSlots]
  ((with_reducible refine Tri.seq (Tri.region ?_)); (with_reducible apply Tri.op); rfl; (with_reducible apply o_assign); rfl; rfl; (with_reducible refine Tri.nil (Tri.thenN (Tri.seq (Tri.region ?_)))); (with_reducible apply Tri.op); rfl; (with_reducible apply o_assign); rfl; rfl; (with_reducible refine Tri.nil (Tri.thenN (Tri.seq (Tri.seq (Tri.region ?_))))); (with_reducible apply Tri.op); rfl; (with_reducible apply o_move); rfl; rfl; (with_reducible apply Tri.op); rfl)
  ((with_reducible apply o_lenRd (hr := hrv)); (case hx => rfl); (case hn => rfl))
  ((with_reducible apply Tri.op); rfl; (with_reducible apply o_move); rfl; rfl; (with_reducible refine Tri.nil (Tri.thenN (Tri.block ?_))))
  ((first | with_reducible apply Tri.loop (α := { i : Nat // i ≤ 2 }) (m := fun x => 2 - x.1) (Lx := fun x => [(0, v), (2, .slice none 0 0), (3, .int .i64 (s3 n1 n2 x.1 : Int)), (9, v), (10, .int .i64 ((2 : Nat) : Int)), (11, .int .i64 (x.1 : Int))]) (Hx := fun x => [Ex (hp w)]) (x0 := ⟨0, Nat.zero_le _⟩) | with_reducible apply TriR.loop (α := { i : Nat // i ≤ 2 }) (m := fun x => 2 - x.1) (Lx := fun x => [(0, v), (2, .slice none 0 0), (3, .int .i64 (s3 n1 n2 x.1 : Int)), (9, v), (10, .int .i64 ((2 : Nat) : Int)), (11, .int .i64 (x.1 : Int))]) (Hx := fun x => [Ex (hp w)]) (x0 := ⟨0, Nat.zero_le _⟩)); (case hL => ((try dsimp only); (repeat (first | exact trivial | refine And.intro (by rfl) ?_)))); (case hH => ((try dsimp only); apply St.all; (repeat first | exact Pulls.nil | (apply Pulls.cons; repeat first | with_reducible exact Pull.head | apply Pull.tail))))); (rintro ⟨i, hi⟩ mx hmx; (try dsimp only at hmx ⊢))
  ((with_reducible refine Tri.seq (Tri.region ?_)); (with_reducible apply Tri.op); rfl; (with_reducible apply o_lss); rfl; rfl; rfl; (with_reducible refine Tri.nil (Tri.thenN (Tri.seq ?_))))
  ((first | with_reducible apply Tri.condD | with_reducible apply TriR.condD); (case hc => rfl); (all_goals intro h))
  · have hi2 : i < 2 := by omega
    obtain ⟨vi, ni, xi, hg, hri, hli, hoi, hs, hx, hbi⟩ := two_of hr1 hr2 l1 l2 o1 o2 i hi2
    have hi3 : i + 1 ≤ 2 := by omega
    ((with_reducible refine Tri.skip (Tri.thenN (Tri.seq (Tri.block (Tri.seq (Tri.region ?_)))))); (with_reducible apply Tri.op); rfl)
    ((with_reducible apply o_ixRd (hr := hrv) (j := i)); (case hx => rfl); (case hy => rfl); (case hj => rfl); (case hlt => omega); (case hl => (rw [hw2]; omega)); (case hn => rfl))
    ((with_reducible apply Tri.op); rfl)
    ((with_reducible apply o_loadRd (hr := hrv)); (case hx => rfl); (case p => (repeat first | with_reducible exact Pull.head | apply Pull.tail)); (case hv => exact hg); (case hn => rfl))
    ((with_reducible apply Tri.op); rfl; (with_reducible apply o_assign); rfl; rfl; (with_reducible refine Tri.nil (Tri.thenN (Tri.seq (Tri.region ?_)))); (with_reducible apply Tri.op); rfl; (with_reducible apply o_move); rfl; rfl; (with_reducible apply Tri.op); rfl; (with_reducible apply o_move); rfl; rfl; (with_reducible apply Tri.op); rfl)
    ((with_reducible apply o_lenRd (hr := hri)); (case hx => rfl); (case hn => rfl))
    ((with_reducible apply Tri.op); rfl; (with_reducible apply o_add64); rfl; rfl; rfl; (omega); (with_reducible apply Tri.op); rfl; (with_reducible apply o_assign); rfl; rfl; (with_reducible refine Tri.nil (Tri.thenN (Tri.seq (Tri.region ?_)))); (with_reducible apply Tri.op); rfl; (with_reducible apply o_move); rfl; rfl; (with_reducible apply Tri.op); rfl; (with_reducible apply o_lss); rfl; rfl; rfl; (with_reducible refine Tri.nil (Tri.thenN ?_)))
    ((with_reducible apply Tri.seti 3 ((s3 n1 n2 (i + 1) : Int))); (case h => rfl); (case hi => (rw [hs]; first | omega | (rw [wrap_i64 (by omega)]; omega))))
    ((with_reducible apply Tri.setb 20 (false)); (case h => rfl); (case hi => exact decide_eq_false (by omega)))
    ((with_reducible apply Tri.condF); rfl; rfl; (with_reducible refine Tri.skip (Tri.blockN (Tri.thenN (Tri.region ?_)))); (with_reducible apply Tri.op); rfl; (with_reducible apply o_add64); rfl; rfl; rfl; (omega); (with_reducible apply Tri.op); rfl; (with_reducible apply o_move); rfl; rfl; (with_reducible refine Tri.nil (Tri.thenN ?_)))
    ((with_reducible apply Tri.seti 11 (((i + 1 : Nat) : Int))); (case h => rfl); (case hi => omega))
    ((with_reducible apply Tri.again (y := ⟨i + 1, hi3⟩)); (case p => ((try dsimp only); (repeat first | exact Pulls.nil | (apply Pulls.cons; repeat first | with_reducible exact Pull.head | apply Pull.tail)))); (case hm => ((try dsimp only); omega)); (try dsimp only))
    (repeat (first | exact trivial | refine And.intro (by rfl) ?_))
  · obtain rfl : i = 2 := by omega
    have hs2 : s3 n1 n2 2 = n1 + n2 := rfl
    rw [hs2]
    ((with_reducible refine Tri.exit (Tri.thenE (Tri.thenE (Tri.blockE (Tri.thenN (Tri.seq (Tri.region ?_))))))); (with_reducible apply Tri.op); rfl; (with_reducible apply o_move); rfl; rfl; (with_reducible apply Tri.op); rfl)
    ((with_reducible apply o_callR (hs := slices_GrowKey (n1 + n2) hb)); (case hargs => (repeat first | exact evs.nil | (apply evs.cons; case a => rfl))); (case hpre => exact fun _ _ => trivial); (case hn => rfl))
    rintro u0 H0 rfl
    (try dsimp only [List.cons_append, List.nil_append])
    ((with_reducible apply Tri.op); rfl; (with_reducible apply o_assign); rfl; rfl; (with_reducible refine Tri.nil (Tri.thenN (Tri.seq (Tri.seq (Tri.region ?_))))); (with_reducible apply Tri.op); rfl; (with_reducible apply o_move); rfl; rfl; (with_reducible apply Tri.op); rfl)
    ((with_reducible apply o_lenRd (hr := hrv)); (case hx => rfl); (case hn => rfl))
    ((with_reducible apply Tri.op); rfl; (with_reducible apply o_move); rfl; rfl; (with_reducible refine Tri.nil (Tri.thenN (Tri.block ?_))))
    ((with_reducible apply Tri.eqA (A := own 98 2 u0 0 []) (B := own 98 2 u0 (s3 n1 n2 0) (x3 xs1 xs2 0))); (case p => (repeat first | with_reducible exact Pull.head | apply Pull.tail)); (case e => rfl))
    ((first | with_reducible apply Tri.loop (α := Σ' (i : Nat) (u : Value), i ≤ 2) (m := fun x => 2 - x.1) (Lx := fun x => [(2, .slice none 0 0), (6, x.2.1), (25, v), (26, .int .i64 ((2 : Nat) : Int)), (27, .int .i64 (x.1 : Int))]) (Hx := fun x => [own 98 2 x.2.1 (s3 n1 n2 x.1) (x3 xs1 xs2 x.1), Ex (hp w)]) (x0 := ⟨0, u0, Nat.zero_le _⟩) | with_reducible apply TriR.loop (α := Σ' (i : Nat) (u : Value), i ≤ 2) (m := fun x => 2 - x.1) (Lx := fun x => [(2, .slice none 0 0), (6, x.2.1), (25, v), (26, .int .i64 ((2 : Nat) : Int)), (27, .int .i64 (x.1 : Int))]) (Hx := fun x => [own 98 2 x.2.1 (s3 n1 n2 x.1) (x3 xs1 xs2 x.1), Ex (hp w)]) (x0 := ⟨0, u0, Nat.zero_le _⟩)); (case hL => ((try dsimp only); (repeat (first | exact trivial | refine And.intro (by rfl) ?_)))); (case hH => ((try dsimp only); apply St.all; (repeat first | exact Pulls.nil | (apply Pulls.cons; repeat first | with_reducible exact Pull.head | apply Pull.tail))))); (rintro ⟨i, u, hi⟩ mx hmx; (try dsimp only at hmx ⊢))
    ((with_reducible refine Tri.seq (Tri.region ?_)); (with_reducible apply Tri.op); rfl; (with_reducible apply o_lss); rfl; rfl; rfl; (with_reducible refine Tri.nil (Tri.thenN (Tri.seq ?_))))
    ((first | with_reducible apply Tri.condD | with_reducible apply TriR.condD); (case hc => rfl); (all_goals intro h2))
    · have hi2 : i < 2 := by omega
      obtain ⟨vi, ni, xi, hg, hri, hli, hoi, hs, hx, hbi⟩ := two_of hr1 hr2 l1 l2 o1 o2 i hi2
      have hi3 : i + 1 ≤ 2 := by omega
      ((with_reducible refine Tri.skip (Tri.thenN (Tri.seq (Tri.block (Tri.seq (Tri.region ?_)))))); (with_reducible apply Tri.op); rfl)
      ((with_reducible apply o_ixRd (hr := hrv) (j := i)); (case hx => rfl); (case hy => rfl); (case hj => rfl); (case hlt => omega); (case hl => (rw [hw2]; omega)); (case hn => rfl))
      ((with_reducible apply Tri.op); rfl)
      ((with_reducible apply o_loadRd (hr := hrv)); (case hx => rfl); (case p => (repeat first | with_reducible exact Pull.head | apply Pull.tail)); (case hv => exact hg); (case hn => rfl))
      ((with_reducible apply Tri.op); rfl; (with_reducible apply o_assign); rfl; rfl; (with_reducible refine Tri.nil (Tri.thenN (Tri.region ?_))); (with_reducible apply Tri.op); rfl; (with_reducible apply o_move); rfl; rfl; (with_reducible apply Tri.op); rfl; (with_reducible apply o_move); rfl; rfl; (with_reducible apply Tri.op); rfl)
      ((with_reducible apply o_append); (case hx => rfl); (case hy => rfl); (case p => (repeat first | with_reducible exact Pull.head | apply Pull.tail)); (case hr => exact rdw_ex (by (repeat first | with_reducible exact Pull.head | apply Pull.tail)) hri); (case hl => exact hli); (case h1 => exact hoi); (case hb => omega); (case hn => rfl))
      intro u'
      ((with_reducible apply Tri.op); rfl; (with_reducible apply o_assign); rfl; rfl; (with_reducible refine Tri.nil (Tri.blockN (Tri.thenN (Tri.region ?_)))); (with_reducible apply Tri.op); rfl; (with_reducible apply o_add64); rfl; rfl; rfl; (omega); (with_reducible apply Tri.op); rfl; (with_reducible apply o_move); rfl; rfl; (with_reducible refine Tri.nil (Tri.thenN ?_)))
      ((with_reducible apply Tri.eqA (A := own 98 2 u' _ _) (B := own 98 2 u' (s3 n1 n2 (i + 1)) (x3 xs1 xs2 (i + 1)))); (case p => (repeat first | with_reducible exact Pull.head | apply Pull.tail)); (case e => (rw [hs, hx])))
      ((with_reducible apply Tri.seti 27 (((i + 1 : Nat) : Int))); (case h => rfl); (case hi => omega))
      ((with_reducible apply Tri.again (y := ⟨i + 1, u', hi3⟩)); (case p => ((try dsimp only); (repeat first | exact Pulls.nil | (apply Pulls.cons; repeat first | with_reducible exact Pull.head | apply Pull.tail)))); (case hm => ((try dsimp only); omega)); (try dsimp only))
      (repeat (first | exact trivial | refine And.intro (by rfl) ?_))
    · obtain rfl : i = 2 := by omega
      ((with_reducible refine Tri.exit (Tri.thenE (Tri.thenE (Tri.blockE (Tri.thenN (Tri.seq (Tri.region ?_))))))); (with_reducible apply Tri.op); rfl; (with_reducible apply o_move); rfl; rfl; (with_reducible apply Tri.op); rfl; (with_reducible apply o_assign); rfl; rfl; (with_reducible refine Tri.nil (Tri.thenN (Tri.ret ?_))))
      ((with_reducible apply Tri.eqA (A := own 98 2 u _ _) (B := own 98 2 u (n1 + n2) (xs1 ++ xs2))); (case p => (repeat first | with_reducible exact Pull.head | apply Pull.tail)); (case e => rfl))
      ((first | with_reducible apply Tri.fin | with_reducible apply Tri.finN); (case hr => rfl); (case h => (repeat (first | exact ResL.nil | (apply ResL.cons; (case a => (first | exact Res1.tmp rfl | (apply Res1.cell; rfl; (repeat first | with_reducible exact Pull.head | apply Pull.tail); rfl) | (apply Res1.agg; rfl; (repeat first | with_reducible exact Pull.head | apply Pull.tail); rfl; rfl))))))); (apply fin_R (Hn := [own 98 2 u (n1 + n2) (xs1 ++ xs2)])); (case p => (repeat first | exact Pulls.nil | (apply Pulls.cons; repeat first | with_reducible exact Pull.head | apply Pull.tail))))
      rfl

set_option maxHeartbeats 1000000 in
theorem slices_ConcatEntry (v v1 v2 : Value) (n1 n2 : Nat) (xs1 xs2 : List Value) (l1 : xs1.length = n1 * 8) (l2 : xs2.length = n2 * 8) (o1 : ∀ y ∈ xs1, y.oneCell' = true) (o2 : ∀ y ∈ xs2, y.oneCell' = true) (hb : n1 + n2 ≤ 5000000) : SpecR Try.prog 50 #[v] (fun w => RdW w v 2 [v1, v2] ∧ RdW w v1 n1 xs1 ∧ RdW w v2 n2 xs2) (fun r H' => H' = [own 100 8 r (n1 + n2) (xs1 ++ xs2)]) := by
  refine SpecR.of (fun w hr => ?_)
  obtain ⟨hrv, hr1, hr2⟩ := hr
  have hw2 : [v1, v2].length = 2 * 1 := rfl
  refine Calls.enter Try.func50 rfl rfl rfl (St.rebase w) ?_
  simp only [argSlots]
  ((with_reducible refine Tri.seq (Tri.region ?_)); (with_reducible apply Tri.op); rfl; (with_reducible apply o_assign); rfl; rfl; (with_reducible refine Tri.nil (Tri.thenN (Tri.seq (Tri.region ?_)))); (with_reducible apply Tri.op); rfl; (with_reducible apply o_assign); rfl; rfl; (with_reducible refine Tri.nil (Tri.thenN (Tri.seq (Tri.seq (Tri.region ?_))))); (with_reducible apply Tri.op); rfl; (with_reducible apply o_move); rfl; rfl; (with_reducible apply Tri.op); rfl)
  ((with_reducible apply o_lenRd (hr := hrv)); (case hx => rfl); (case hn => rfl))
  ((with_reducible apply Tri.op); rfl; (with_reducible apply o_move); rfl; rfl; (with_reducible refine Tri.nil (Tri.thenN (Tri.block ?_))))
  ((first | with_reducible apply Tri.loop (α := { i : Nat // i ≤ 2 }) (m := fun x => 2 - x.1) (Lx := fun x => [(0, v), (2, .slice none 0 0), (3, .int .i64 (s3 n1 n2 x.1 : Int)), (9, v), (10, .int .i64 ((2 : Nat) : Int)), (11, .int .i64 (x.1 : Int))]) (Hx := fun x => [Ex (hp w)]) (x0 := ⟨0, Nat.zero_le _⟩) | with_reducible apply TriR.loop (α := { i : Nat // i ≤ 2 }) (m := fun x => 2 - x.1) (Lx := fun x => [(0, v), (2, .slice none 0 0), (3, .int .i64 (s3 n1 n2 x.1 : Int)), (9, v), (10, .int .i64 ((2 : Nat) : Int)), (11, .int .i64 (x.1 : Int))]) (Hx := fun x => [Ex (hp w)]) (x0 := ⟨0, Nat.zero_le _⟩)); (case hL => ((try dsimp only); (repeat (first | exact trivial | refine And.intro (by rfl) ?_)))); (case hH => ((try dsimp only); apply St.all; (repeat first | exact Pulls.nil | (apply Pulls.cons; repeat first | with_reducible exact Pull.head | apply Pull.tail))))); (rintro ⟨i, hi⟩ mx hmx; (try dsimp only at hmx ⊢))
  ((with_reducible refine Tri.seq (Tri.region ?_)); (with_reducible apply Tri.op); rfl; (with_reducible apply o_lss); rfl; rfl; rfl; (with_reducible refine Tri.nil (Tri.thenN (Tri.seq ?_))))
  ((first | with_reducible apply Tri.condD | with_reducible apply TriR.condD); (case hc => rfl); (all_goals intro h))
  · have hi2 : i < 2 := by omega
    obtain ⟨vi, ni, xi, hg, hri, hli, hoi, hs, hx, hbi⟩ := two_of hr1 hr2 l1 l2 o1 o2 i hi2
    have hi3 : i + 1 ≤ 2 := by omega
    ((with_reducible refine Tri.skip (Tri.thenN (Tri.seq (Tri.block (Tri.seq (Tri.region ?_)))))); (with_reducible apply Tri.op); rfl)
    ((with_reducible apply o_ixRd (hr := hrv) (j := i)); (case hx => rfl); (case hy => rfl); (case hj => rfl); (case hlt => omega); (case hl => (rw [hw2]; omega)); (case hn => rfl))
    ((with_reducible apply Tri.op); rfl)
    ((with_reducible apply o_loadRd (hr := hrv)); (case hx => rfl); (case p => (repeat first | with_reducible exact Pull.head | apply Pull.tail)); (case hv => exact hg); (case hn => rfl))
    ((with_reducible apply Tri.op); rfl; (with_reducible apply o_assign); rfl; rfl; (with_reducible refine Tri.nil (Tri.thenN (Tri.seq (Tri.region ?_)))); (with_reducible apply Tri.op); rfl; (with_reducible apply o_move); rfl; rfl; (with_reducible apply Tri.op); rfl; (with_reducible apply o_move); rfl; rfl; (with_reducible apply Tri.op); rfl)
    ((with_reducible apply o_lenRd (hr := hri)); (case hx => rfl); (case hn => rfl))
    ((with_reducible apply Tri.op); rfl; (with_reducible apply o_add64); rfl; rfl; rfl; (omega); (with_reducible apply Tri.op); rfl; (with_reducible apply o_assign); rfl; rfl; (with_reducible refine Tri.nil (Tri.thenN (Tri.seq (Tri.region ?_)))); (with_reducible apply Tri.op); rfl; (with_reducible apply o_move); rfl; rfl; (with_reducible apply Tri.op); rfl; (with_reducible apply o_lss); rfl; rfl; rfl; (with_reducible refine Tri.nil (Tri.thenN ?_)))
    ((with_reducible apply Tri.seti 3 ((s3 n1 n2 (i + 1) : Int))); (case h => rfl); (case hi => (rw [hs]; first | omega | (rw [wrap_i64 (by omega)]; omega))))
    ((with_reducible apply Tri.setb 20 (false)); (case h => rfl); (case hi => exact decide_eq_false (by omega)))
    ((with_reducible apply Tri.condF); rfl; rfl; (with_reducible refine Tri.skip (Tri.blockN (Tri.thenN (Tri.region ?_)))); (with_reducible apply Tri.op); rfl; (with_reducible apply o_add64); rfl; rfl; rfl; (omega); (with_reducible apply Tri.op); rfl; (with_reducible apply o_move); rfl; rfl; (with_reducible refine Tri.nil (Tri.thenN ?_)))
    ((with_reducible apply Tri.seti 11 (((i + 1 : Nat) : Int))); (case h => rfl); (case hi => omega))
    ((with_reducible apply Tri.again (y := ⟨i + 1, hi3⟩)); (case p => ((try dsimp only); (repeat first | exact Pulls.nil | (apply Pulls.cons; repeat first | with_reducible exact Pull.head | apply Pull.tail)))); (case hm => ((try dsimp only); omega)); (try dsimp only))
    (repeat (first | exact trivial | refine And.intro (by rfl) ?_))
  · obtain rfl : i = 2 := by omega
    have hs2 : s3 n1 n2 2 = n1 + n2 := rfl
    rw [hs2]
    ((with_reducible refine Tri.exit (Tri.thenE (Tri.thenE (Tri.blockE (Tri.thenN (Tri.seq (Tri.region ?_))))))); (with_reducible apply Tri.op); rfl; (with_reducible apply o_move); rfl; rfl; (with_reducible apply Tri.op); rfl)
    ((with_reducible apply o_callR (hs := slices_GrowEntry (n1 + n2) hb)); (case hargs => (repeat first | exact evs.nil | (apply evs.cons; case a => rfl))); (case hpre => exact fun _ _ => trivial); (case hn => rfl))
    rintro u0 H0 rfl
    (try dsimp only [List.cons_append, List.nil_append])
    ((with_reducible apply Tri.op); rfl; (with_reducible apply o_assign); rfl; rfl; (with_reducible refine Tri.nil (Tri.thenN (Tri.seq (Tri.seq (Tri.region ?_))))); (with_reducible apply Tri.op); rfl; (with_reducible apply o_move); rfl; rfl; (with_reducible apply Tri.op); rfl)
    ((with_reducible apply o_lenRd (hr := hrv)); (case hx => rfl); (case hn => rfl))
    ((with_reducible apply Tri.op); rfl; (with_reducible apply o_move); rfl; rfl; (with_reducible refine Tri.nil (Tri.thenN (Tri.block ?_))))
    ((with_reducible apply Tri.eqA (A := own 100 8 u0 0 []) (B := own 100 8 u0 (s3 n1 n2 0) (x3 xs1 xs2 0))); (case p => (repeat first | with_reducible exact Pull.head | apply Pull.tail)); (case e => rfl))
    ((first | with_reducible apply Tri.loop (α := Σ' (i : Nat) (u : Value), i ≤ 2) (m := fun x => 2 - x.1) (Lx := fun x => [(2, .slice none 0 0), (6, x.2.1), (25, v), (26, .int .i64 ((2 : Nat) : Int)), (27, .int .i64 (x.1 : Int))]) (Hx := fun x => [own 100 8 x.2.1 (s3 n1 n2 x.1) (x3 xs1 xs2 x.1), Ex (hp w)]) (x0 := ⟨0, u0, Nat.zero_le _⟩) | with_reducible apply TriR.loop (α := Σ' (i : Nat) (u : Value), i ≤ 2) (m := fun x => 2 - x.1) (Lx := fun x => [(2, .slice none 0 0), (6, x.2.1), (25, v), (26, .int .i64 ((2 : Nat) : Int)), (27, .int .i64 (x.1 : Int))]) (Hx := fun x => [own 100 8 x.2.1 (s3 n1 n2 x.1) (x3 xs1 xs2 x.1), Ex (hp w)]) (x0 := ⟨0, u0, Nat.zero_le _⟩)); (case hL => ((try dsimp only); (repeat (first | exact trivial | refine And.intro (by rfl) ?_)))); (case hH => ((try dsimp only); apply St.all; (repeat first | exact Pulls.nil | (apply Pulls.cons; repeat first | with_reducible exact Pull.head | apply Pull.tail))))); (rintro ⟨i, u, hi⟩ mx hmx; (try dsimp only at hmx ⊢))
    ((with_reducible refine Tri.seq (Tri.region ?_)); (with_reducible apply Tri.op); rfl; (with_reducible apply o_lss); rfl; rfl; rfl; (with_reducible refine Tri.nil (Tri.thenN (Tri.seq ?_))))
    ((first | with_reducible apply Tri.condD | with_reducible apply TriR.condD); (case hc => rfl); (all_goals intro h2))
    · have hi2 : i < 2 := by omega
      obtain ⟨vi, ni, xi, hg, hri, hli, hoi, hs, hx, hbi⟩ := two_of hr1 hr2 l1 l2 o1 o2 i hi2
      have hi3 : i + 1 ≤ 2 := by omega
      ((with_reducible refine Tri.skip (Tri.thenN (Tri.seq (Tri.block (Tri.seq (Tri.region ?_)))))); (with_reducible apply Tri.op); rfl)
      ((with_reducible apply o_ixRd (hr := hrv) (j := i)); (case hx => rfl); (case hy => rfl); (case hj => rfl); (case hlt => omega); (case hl => (rw [hw2]; omega)); (case hn => rfl))
      ((with_reducible apply Tri.op); rfl)
      ((with_reducible apply o_loadRd (hr := hrv)); (case hx => rfl); (case p => (repeat first | with_reducible exact Pull.head | apply Pull.tail)); (case hv => exact hg); (case hn => rfl))
      ((with_reducible apply Tri.op); rfl; (with_reducible apply o_assign); rfl; rfl; (with_reducible refine Tri.nil (Tri.thenN (Tri.region ?_))); (with_reducible apply Tri.op); rfl; (with_reducible apply o_move); rfl; rfl; (with_reducible apply Tri.op); rfl; (with_reducible apply o_move); rfl; rfl; (with_reducible apply Tri.op); rfl)
      ((with_reducible apply o_append); (case hx => rfl); (case hy => rfl); (case p => (repeat first | with_reducible exact Pull.head | apply Pull.tail)); (case hr => exact rdw_ex (by (repeat first | with_reducible exact Pull.head | apply Pull.tail)) hri); (case hl => exact hli); (case h1 => exact hoi); (case hb => omega); (case hn => rfl))
      intro u'
      ((with_reducible apply Tri.op); rfl; (with_reducible apply o_assign); rfl; rfl; (with_reducible refine Tri.nil (Tri.blockN (Tri.thenN (Tri.region ?_)))); (with_reducible apply Tri.op); rfl; (with_reducible apply o_add64); rfl; rfl; rfl; (omega); (with_reducible apply Tri.op); rfl; (with_reducible apply o_move); rfl; rfl; (with_reducible refine Tri.nil (Tri.thenN ?_)))
      ((with_reducible apply Tri.eqA (A := own 100 8 u' _ _) (B := own 100 8 u' (s3 n1 n2 (i + 1)) (x3 xs1 xs2 (i + 1)))); (case p => (repeat first | with_reducible exact Pull.head | apply Pull.tail)); (case e => (rw [hs, hx])))
      ((with_reducible apply Tri.seti 27 (((i + 1 : Nat) : Int))); (case h => rfl); (case hi => omega))
      ((with_reducible apply Tri.again (y := ⟨i + 1, u', hi3⟩)); (case p => ((try dsimp only); (repeat first | exact Pulls.nil | (apply Pulls.cons; repeat first | with_reducible exact Pull.head | apply Pull.tail)))); (case hm => ((try dsimp only); omega)); (try dsimp only))
      (repeat (first | exact trivial | refine And.intro (by rfl) ?_))
    · obtain rfl : i = 2 := by omega
      ((with_reducible refine Tri.exit (Tri.thenE (Tri.thenE (Tri.blockE (Tri.thenN (Tri.seq (Tri.region ?_))))))); (with_reducible apply Tri.op); rfl; (with_reducible apply o_move); rfl; rfl; (with_reducible apply Tri.op); rfl; (with_reducible apply o_assign); rfl; rfl; (with_reducible refine Tri.nil (Tri.thenN (Tri.ret ?_))))
      ((with_reducible apply Tri.eqA (A := own 100 8 u _ _) (B := own 100 8 u (n1 + n2) (xs1 ++ xs2))); (case p => (repeat first | with_reducible exact Pull.head | apply Pull.tail)); (case e => rfl))
      ((first | with_reducible apply Tri.fin | with_reducible apply Tri.finN); (case hr => rfl); (case h => (repeat (first | exact ResL.nil | (apply ResL.cons; (case a => (first | exact Res1.tmp rfl | (apply Res1.cell; rfl; (repeat first | with_reducible exact Pull.head | apply Pull.tail); rfl) | (apply Res1.agg; rfl; (repeat first | with_reducible exact Pull.head | apply Pull.tail); rfl; rfl))))))); (apply fin_R (Hn := [own 100 8 u (n1 + n2) (xs1 ++ xs2)])); (case p => (repeat first | exact Pulls.nil | (apply Pulls.cons; repeat first | with_reducible exact Pull.head | apply Pull.tail))))
      rfl

end Go.Proofs.Ytckdlfbbkemklaa
end
