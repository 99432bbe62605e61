import Derived.Test.YtckdlfbbkemklaaZH
import Derived.Test.YtckdlfbbkemklaaZCrcWalk
import Derived.Test.YtckdlfbbkemklaaZB
/- node: what its small functions answer. -/
namespace Go.Proofs.Ytckdlfbbkemklaa
open Go Go.RowKit Go.Gv
set_option linter.unusedVariables false
set_option linter.unusedSimpArgs false

def keyL (k : KEY) : List Value := [.int .i64 k.1, .int .i64 k.2]
def keyV (k : KEY) : Value := .agg (keyL k).toArray
def KL (ks : List KEY) : List Value := ks.flatMap keyL
def NL (l : List Int) : List Value := l.map (.int .i64)
theorem NL_get (l : List Int) (i : Nat) (h : i < l.length) : (NL l)[i]? = some (.int .i64 (l.getD i 0)) := by
  rw [NL, List.getElem?_map, List.getElem?_eq_getElem h, List.getD_eq_getElem?_getD, List.getElem?_eq_getElem h]; rfl
theorem NL_sub (l : List Int) (hi : Nat) : ((NL l).drop (0 * 1)).take ((hi - 0) * 1) = NL (l.take hi) := by simp [NL, List.map_take]
theorem NL_length (l : List Int) : (NL l).length = l.length := by simp [NL]
theorem KL_length : ∀ ks, (KL ks).length = ks.length * 2
  | [] => rfl
  | x :: W => by
    have := KL_length W
    simp only [KL, keyL, List.flatMap_cons, List.length_append, List.length_cons, List.length_nil] at this ⊢; omega
theorem KL_drop : ∀ (F : List KEY) (k : Nat), (KL F).drop (k * 2) = KL (F.drop k)
  | F, 0 => rfl
  | [], k + 1 => by simp [KL]
  | x :: F, k + 1 => by
    rw [show (k + 1) * 2 = k * 2 + 2 by omega, ← List.drop_drop, List.drop_drop, Nat.add_comm, ← List.drop_drop]
    exact KL_drop F k
theorem KL_two (F : List KEY) (k : Nat) (h : k < F.length) : ((KL F).drop (k * 2)).take 2 = keyL (F.getD k (0, 0)) := by
  rw [KL_drop, List.drop_eq_getElem_cons h, List.getD_eq_getElem?_getD, List.getElem?_eq_getElem h]; rfl
theorem keyL_one (k : KEY) : ∀ y ∈ keyL k, y.oneCell' = true := by
  intro y hy; simp [keyL] at hy; rcases hy with rfl | rfl <;> rfl

set_option maxHeartbeats 1000000 in
theorem node_between (n low high : Int) : SpecR Try.prog 127 #[.int .i64 n, .int .i64 low, .int .i64 high] (fun _ => True) (fun r H' => r = .bool (betw n low high) ∧ H' = []) := by
  refine SpecR.of (fun w _ => ?_)
  refine Calls.enter Try.func127 rfl rfl rfl (St.rebase w) ?_
  simp only [argSlots]
  ((with_reducible refine Tri.seq (Tri.region ?_)); (with_reducible apply Tri.op); rfl; (with_reducible apply o_assign); rfl; rfl; (with_reducible refine Tri.nil (Tri.thenN (Tri.seq (Tri.region ?_)))); (with_reducible apply Tri.op); rfl; (with_reducible apply o_move); rfl; rfl; (with_reducible apply Tri.op); rfl; (with_reducible apply o_move); rfl; rfl; (with_reducible apply Tri.op); rfl; (with_reducible apply o_geq); rfl; rfl; rfl; (with_reducible apply Tri.op); rfl; (with_reducible apply o_move); rfl; rfl)
  ((with_reducible apply Tri.casesB 10); (case h => rfl); (all_goals intro h))
  · have g := of_decide_eq_true h
    ((with_reducible apply Tri.opYes); rfl; rfl; rfl; (with_reducible apply o_move); rfl; rfl; (with_reducible apply Tri.opYes); rfl; rfl; rfl; (with_reducible apply o_move); rfl; rfl; (with_reducible apply Tri.opYes); rfl; rfl; rfl; (with_reducible apply o_leq); rfl; rfl; rfl; (with_reducible apply Tri.op); rfl; (with_reducible apply o_pickT); (iterate 4 rfl); (with_reducible apply Tri.op); rfl; (with_reducible apply o_assign); rfl; rfl; (with_reducible refine Tri.nil (Tri.thenN (Tri.ret ?_))))
    ((first | with_reducible apply Tri.fin | with_reducible apply Tri.finN); (case hr => rfl); (case h => exact ResL.cons (Res1.tmp rfl) (ResL.nil)); (apply fin_R (Hn := [])); (case p => exact (by (repeat first | exact Pulls.nil | (apply Pulls.cons; repeat first | with_reducible exact Pull.head | apply Pull.tail)))); exact ⟨by simp only [tupled]; (rw [betw, decide_eq_true g, Bool.true_and]), rfl⟩)
  · have g := of_decide_eq_false h
    ((iterate 3 (with_reducible apply Tri.opNo (c := false)); (iterate 6 rfl)); (with_reducible apply Tri.op); rfl; (with_reducible apply o_pickF); (iterate 4 rfl); (with_reducible apply Tri.op); rfl; (with_reducible apply o_assign); rfl; rfl; (with_reducible refine Tri.nil (Tri.thenN (Tri.ret ?_))))
    ((first | with_reducible apply Tri.fin | with_reducible apply Tri.finN); (case hr => rfl); (case h => exact ResL.cons (Res1.tmp rfl) (ResL.nil)); (apply fin_R (Hn := [])); (case p => exact (by (repeat first | exact Pulls.nil | (apply Pulls.cons; repeat first | with_reducible exact Pull.head | apply Pull.tail)))); exact ⟨by simp only [tupled]; (rw [betw, decide_eq_false g, Bool.false_and]), rfl⟩)

set_option maxHeartbeats 1000000 in
theorem node_rightKey (k : KEY) : SpecR Try.prog 128 #[keyV k] (fun _ => True) (fun r H' => r = .bool (keyOk k) ∧ H' = []) := by
  refine SpecR.of (fun w _ => ?_)
  refine Calls.enter Try.func128 rfl rfl rfl (St.rebase w) ?_
  simp only [argSlots]
  ((with_reducible refine Tri.seq (Tri.region ?_)); (with_reducible apply Tri.op); rfl)
  (first | ((with_reducible apply o_boxA); (case hx => rfl); (case hn => rfl); intro b1) | ((with_reducible apply o_box1); (case hx => rfl); (case h1 => rfl); (case hn => rfl); intro b1))
  ((with_reducible apply Tri.op); rfl; (with_reducible apply o_assign); rfl; rfl; (with_reducible refine Tri.nil (Tri.thenN (Tri.seq (Tri.region ?_)))); (with_reducible apply Tri.op); rfl; (with_reducible apply o_fieldAddr); rfl; rfl; (with_reducible apply Tri.op); rfl; (with_reducible apply o_load); rfl; (repeat first | with_reducible exact Pull.head | apply Pull.tail); rfl; rfl; (with_reducible apply Tri.op); rfl)
  ((with_reducible apply o_callV (hs := node_between k.1 0 4294967295)); (case hargs => (repeat first | exact evs.nil | (apply evs.cons; case a => rfl))); (case hpre => exact fun _ _ => trivial); (case hn => rfl))
  ((with_reducible apply Tri.op); rfl; (with_reducible apply o_assign); rfl; rfl; (with_reducible refine Tri.nil (Tri.thenN (Tri.ret ?_))))
  ((first | with_reducible apply Tri.fin | with_reducible apply Tri.finN); (case hr => rfl); (case h => exact ResL.cons (Res1.tmp rfl) (ResL.nil)); (apply fin_R (Hn := [])); (case p => exact (by (repeat first | exact Pulls.nil | (apply Pulls.cons; repeat first | with_reducible exact Pull.head | apply Pull.tail)))); exact ⟨by simp only [tupled]; rfl, rfl⟩)

set_option maxHeartbeats 1000000 in
theorem node_Less (a b : KEY) : SpecR Try.prog 99 #[keyV a, keyV b] (fun _ => True) (fun r H' => r = .bool (lessK a b) ∧ H' = []) := by
  refine SpecR.of (fun w _ => ?_)
  refine Calls.enter Try.func99 rfl rfl rfl (St.rebase w) ?_
  simp only [argSlots]
  ((with_reducible refine Tri.seq (Tri.region ?_)); (with_reducible apply Tri.op); rfl)
  (first | ((with_reducible apply o_boxA); (case hx => rfl); (case hn => rfl); intro b2) | ((with_reducible apply o_box1); (case hx => rfl); (case h1 => rfl); (case hn => rfl); intro b2))
  ((with_reducible apply Tri.op); rfl)
  (first | ((with_reducible apply o_boxA); (case hx => rfl); (case hn => rfl); intro b3) | ((with_reducible apply o_box1); (case hx => rfl); (case h1 => rfl); (case hn => rfl); intro b3))
  ((with_reducible apply Tri.op); rfl; (with_reducible apply o_assign); rfl; rfl; (with_reducible refine Tri.nil (Tri.thenN (Tri.seq (Tri.region ?_)))); (with_reducible apply Tri.op); rfl; (with_reducible apply o_fieldAddr); rfl; rfl; (with_reducible apply Tri.op); rfl; (with_reducible apply o_load); rfl; (repeat first | with_reducible exact Pull.head | apply Pull.tail); rfl; rfl; (with_reducible apply Tri.op); rfl; (with_reducible apply o_fieldAddr); rfl; rfl; (with_reducible apply Tri.op); rfl; (with_reducible apply o_load); rfl; (repeat first | with_reducible exact Pull.head | apply Pull.tail); rfl; rfl; (with_reducible apply Tri.op); rfl; (with_reducible apply o_lss); rfl; rfl; rfl; (with_reducible apply Tri.op); rfl; (with_reducible apply o_move); rfl; rfl)
  ((with_reducible apply Tri.casesB 10); (case h => rfl); (all_goals intro h1))
  · have g1 := of_decide_eq_true h1
    ((iterate 6 (with_reducible apply Tri.opNo (c := true)); (iterate 6 rfl)); (iterate 5 (with_reducible apply Tri.opNoU); (iterate 4 rfl)); (with_reducible apply Tri.opNo (c := true)); (iterate 6 rfl); (with_reducible apply Tri.op); rfl; (with_reducible apply o_pickT); (iterate 4 rfl); (with_reducible apply Tri.op); rfl; (with_reducible apply o_assign); rfl; rfl; (with_reducible refine Tri.nil (Tri.thenN (Tri.ret ?_))))
    ((first | with_reducible apply Tri.fin | with_reducible apply Tri.finN); (case hr => rfl); (case h => exact ResL.cons (Res1.tmp rfl) (ResL.nil)); (apply fin_R (Hn := [])); (case p => exact (by (repeat first | exact Pulls.nil | (apply Pulls.cons; repeat first | with_reducible exact Pull.head | apply Pull.tail)))); exact ⟨by simp only [tupled]; (rw [lessK, decide_eq_true g1, Bool.true_or]), rfl⟩)
  · have g1 := of_decide_eq_false h1
    ((with_reducible apply Tri.opYes); rfl; rfl; rfl; (with_reducible apply o_fieldAddr); rfl; rfl; (with_reducible apply Tri.opYes); rfl; rfl; rfl; (with_reducible apply o_load); rfl; (repeat first | with_reducible exact Pull.head | apply Pull.tail); rfl; rfl; (with_reducible apply Tri.opYes); rfl; rfl; rfl; (with_reducible apply o_fieldAddr); rfl; rfl; (with_reducible apply Tri.opYes); rfl; rfl; rfl; (with_reducible apply o_load); rfl; (repeat first | with_reducible exact Pull.head | apply Pull.tail); rfl; rfl; (with_reducible apply Tri.opYes); rfl; rfl; rfl; (with_reducible apply o_eql); rfl; rfl; rfl; (with_reducible apply Tri.opYes); rfl; rfl; rfl; (with_reducible apply o_move); rfl; rfl)
    ((with_reducible apply Tri.casesB 16); (case h => rfl); (all_goals intro h2))
    · have g2 := of_decide_eq_true h2
      ((with_reducible apply Tri.opYes); rfl; rfl; rfl; (with_reducible apply o_fieldAddr); rfl; rfl; (with_reducible apply Tri.opYes); rfl; rfl; rfl; (with_reducible apply o_load); rfl; (repeat first | with_reducible exact Pull.head | apply Pull.tail); rfl; rfl; (with_reducible apply Tri.opYes); rfl; rfl; rfl; (with_reducible apply o_fieldAddr); rfl; rfl; (with_reducible apply Tri.opYes); rfl; rfl; rfl; (with_reducible apply o_load); rfl; (repeat first | with_reducible exact Pull.head | apply Pull.tail); rfl; rfl; (with_reducible apply Tri.opYes); rfl; rfl; rfl; (with_reducible apply o_lss); rfl; rfl; rfl; (with_reducible apply Tri.opYes); rfl; rfl; rfl; (with_reducible apply o_pickT); (iterate 4 rfl); (with_reducible apply Tri.op); rfl; (with_reducible apply o_pickF); (iterate 4 rfl); (with_reducible apply Tri.op); rfl; (with_reducible apply o_assign); rfl; rfl; (with_reducible refine Tri.nil (Tri.thenN (Tri.ret ?_))))
      ((first | with_reducible apply Tri.fin | with_reducible apply Tri.finN); (case hr => rfl); (case h => exact ResL.cons (Res1.tmp rfl) (ResL.nil)); (apply fin_R (Hn := [])); (case p => exact (by (repeat first | exact Pulls.nil | (apply Pulls.cons; repeat first | with_reducible exact Pull.head | apply Pull.tail)))); exact ⟨by simp only [tupled]; (rw [lessK, decide_eq_false g1, decide_eq_true g2, Bool.false_or, Bool.true_and]), rfl⟩)
    · have g2 := of_decide_eq_false h2
      ((iterate 5 (with_reducible apply Tri.opNo (c := false)); (iterate 6 rfl)); (with_reducible apply Tri.opYes); rfl; rfl; rfl; (with_reducible apply o_pickF); (iterate 4 rfl); (with_reducible apply Tri.op); rfl; (with_reducible apply o_pickF); (iterate 4 rfl); (with_reducible apply Tri.op); rfl; (with_reducible apply o_assign); rfl; rfl; (with_reducible refine Tri.nil (Tri.thenN (Tri.ret ?_))))
      ((first | with_reducible apply Tri.fin | with_reducible apply Tri.finN); (case hr => rfl); (case h => exact ResL.cons (Res1.tmp rfl) (ResL.nil)); (apply fin_R (Hn := [])); (case p => exact (by (repeat first | exact Pulls.nil | (apply Pulls.cons; repeat first | with_reducible exact Pull.head | apply Pull.tail)))); exact ⟨by simp only [tupled]; (rw [lessK, decide_eq_false g1, decide_eq_false g2]; rfl), rfl⟩)

set_option maxHeartbeats 1000000 in
theorem slices_Index (v : Value) (l : List Int) (n : Int) : SpecR Try.prog 144 #[v, .int .i64 n] (fun w => RdW w v l.length (NL l)) (fun r H' => ∃ k : Int, r = .int .i64 k ∧ (0 ≤ k ↔ n ∈ l) ∧ H' = []) := by
  refine SpecR.of (fun w hr => ?_)
  have hlen := hr.le
  refine Calls.enter Try.func144 rfl rfl rfl (St.rebase w) ?_
  simp only [argSlots]
  ((with_reducible refine Tri.seq (Tri.region ?_)); (with_reducible apply Tri.op); rfl; (with_reducible apply o_assign); rfl; rfl; (with_reducible refine Tri.nil (Tri.thenN (Tri.seq (Tri.seq (Tri.region ?_))))); (with_reducible apply Tri.op); rfl; (with_reducible apply o_move); rfl; rfl; (with_reducible apply Tri.op); rfl)
  ((with_reducible apply o_lenRd (hr := hr)); (case hx => rfl); (case hn => rfl))
  ((with_reducible apply Tri.op); rfl; (with_reducible apply o_move); rfl; rfl; (with_reducible refine Tri.nil (Tri.thenN (Tri.block ?_))))
  ((first | with_reducible apply Tri.loop (α := { i : Nat // i ≤ l.length ∧ n ∉ l.take i }) (m := fun x => l.length - x.1) (Lx := fun x => [(0, v), (1, .int .i64 n), (7, .int .i64 (l.length : Int)), (8, .int .i64 (x.1 : Int))]) (Hx := fun x => [Ex (hp w)]) (x0 := ⟨0, Nat.zero_le _, by simp⟩) | with_reducible apply TriR.loop (α := { i : Nat // i ≤ l.length ∧ n ∉ l.take i }) (m := fun x => l.length - x.1) (Lx := fun x => [(0, v), (1, .int .i64 n), (7, .int .i64 (l.length : Int)), (8, .int .i64 (x.1 : Int))]) (Hx := fun x => [Ex (hp w)]) (x0 := ⟨0, Nat.zero_le _, by simp⟩)); (case hL => ((try dsimp only); (repeat (first | exact trivial | refine And.intro (by rfl) ?_)))); (case hH => ((try dsimp only); apply St.all; (repeat first | exact Pulls.nil | (apply Pulls.cons; repeat first | with_reducible exact Pull.head | apply Pull.tail))))); (rintro ⟨i, hi, hno⟩ mx hmx; (try dsimp only at hmx ⊢))
  ((with_reducible refine Tri.seq (Tri.region ?_)); (with_reducible apply Tri.op); rfl; (with_reducible apply o_lss); rfl; rfl; rfl; (with_reducible refine Tri.nil (Tri.thenN (Tri.seq ?_))))
  ((first | with_reducible apply Tri.condD | with_reducible apply TriR.condD); (case hc => rfl); (all_goals intro h))
  · have hil : i < l.length := by omega
    have hgd : l.getD i 0 = l[i] := by rw [List.getD_eq_getElem?_getD, List.getElem?_eq_getElem hil]; rfl
    ((with_reducible refine Tri.skip (Tri.thenN (Tri.seq (Tri.block (Tri.seq (Tri.region ?_)))))); (with_reducible apply Tri.op); rfl; (with_reducible apply o_move); rfl; rfl; (with_reducible apply Tri.op); rfl; (with_reducible apply o_assign); rfl; rfl; (with_reducible refine Tri.nil (Tri.thenN (Tri.seq (Tri.region ?_)))); (with_reducible apply Tri.op); rfl; (with_reducible apply o_move); rfl; rfl; (with_reducible apply Tri.op); rfl; (with_reducible apply o_move); rfl; rfl; (with_reducible apply Tri.op); rfl; (with_reducible apply o_move); rfl; rfl; (with_reducible apply Tri.op); rfl)
    ((with_reducible apply o_ixRd (hr := hr) (j := i)); (case hx => rfl); (case hy => rfl); (case hj => rfl); (case hlt => exact hil); (case hl => (rw [NL_length]; omega)); (case hn => rfl))
    ((with_reducible apply Tri.op); rfl)
    ((with_reducible apply o_loadRd (hr := hr)); (case hx => rfl); (case p => (repeat first | with_reducible exact Pull.head | apply Pull.tail)); (case hv => exact (by rw [Nat.mul_one]; exact NL_get l i hil)); (case hn => rfl))
    ((with_reducible apply Tri.op); rfl; (with_reducible apply o_eql); rfl; rfl; rfl; (with_reducible refine Tri.nil (Tri.thenN ?_)))
    ((first | with_reducible apply Tri.condD | with_reducible apply TriR.condD); (case hc => rfl); (all_goals intro hq))
    · ((with_reducible refine Tri.seq (Tri.region ?_)); (with_reducible apply Tri.op); rfl; (with_reducible apply o_move); rfl; rfl; (with_reducible apply Tri.op); rfl; (with_reducible apply o_assign); rfl; rfl; (with_reducible refine Tri.nil (Tri.thenN (Tri.ret (Tri.blockR (Tri.thenR (Tri.thenR (Tri.blockR (Tri.thenR ?_)))))))))
      ((first | with_reducible apply Tri.fin | with_reducible apply Tri.finN); (case hr => rfl); (case h => exact ResL.cons (Res1.tmp rfl) (ResL.nil)); (apply fin_R (Hn := [])); (case p => exact (by (repeat first | exact Pulls.nil | (apply Pulls.cons; repeat first | with_reducible exact Pull.head | apply Pull.tail)))); exact ⟨(i : Int), rfl, ⟨fun _ => by rw [hq, hgd]; exact List.getElem_mem hil, fun _ => by omega⟩, rfl⟩)
    · have hno2 : n ∉ l.take (i + 1) := fun hm => by
        rw [List.take_succ_eq_append_getElem hil] at hm
        rcases List.mem_append.1 hm with hm | hm
        · exact hno hm
        · simp at hm; exact hq (by rw [hgd]; exact hm)
      ((with_reducible refine Tri.skip (Tri.blockN (Tri.thenN (Tri.region ?_)))); (with_reducible apply Tri.op); rfl; (with_reducible apply o_add64); rfl; rfl; rfl; (omega); (with_reducible apply Tri.op); rfl; (with_reducible apply o_move); rfl; rfl; (with_reducible refine Tri.nil (Tri.thenN ?_)))
      ((with_reducible apply Tri.again (y := ⟨i + 1, by omega, hno2⟩)); (case p => ((try dsimp only); (repeat first | exact Pulls.nil | (apply Pulls.cons; repeat first | with_reducible exact Pull.head | apply Pull.tail)))); (case hm => ((try dsimp only); omega)); (try dsimp only))
      (repeat (first | exact trivial | refine And.intro (by rfl) ?_))
  · obtain rfl : i = l.length := by omega
    rw [List.take_length] at hno
    ((with_reducible refine Tri.exit (Tri.thenE (Tri.thenE (Tri.blockE (Tri.thenN (Tri.seq (Tri.region ?_))))))); (with_reducible apply Tri.op); rfl; (with_reducible apply o_assign); rfl; rfl; (with_reducible refine Tri.nil (Tri.thenN (Tri.ret ?_))))
    ((first | with_reducible apply Tri.fin | with_reducible apply Tri.finN); (case hr => rfl); (case h => exact ResL.cons (Res1.tmp rfl) (ResL.nil)); (apply fin_R (Hn := [])); (case p => exact (by (repeat first | exact Pulls.nil | (apply Pulls.cons; repeat first | with_reducible exact Pull.head | apply Pull.tail)))); exact ⟨-1, rfl, ⟨fun h => absurd h (by omega), fun h => absurd h hno⟩, rfl⟩)

set_option maxHeartbeats 1000000 in
theorem slices_Contains (v : Value) (l : List Int) (n : Int) : SpecR Try.prog 129 #[v, .int .i64 n] (fun w => RdW w v l.length (NL l)) (fun r H' => r = .bool (decide (n ∈ l)) ∧ H' = []) := by
  refine SpecR.of (fun w hr => ?_)
  refine Calls.enter Try.func129 rfl rfl rfl (St.rebase w) ?_
  simp only [argSlots]
  ((with_reducible refine Tri.seq (Tri.region ?_)); (with_reducible apply Tri.op); rfl; (with_reducible apply o_assign); rfl; rfl; (with_reducible refine Tri.nil (Tri.thenN (Tri.seq (Tri.region ?_)))); (with_reducible apply Tri.op); rfl; (with_reducible apply o_move); rfl; rfl; (with_reducible apply Tri.op); rfl; (with_reducible apply o_move); rfl; rfl; (with_reducible apply Tri.op); rfl)
  ((with_reducible apply o_callR (hs := slices_Index v l n)); (case hargs => (repeat first | exact evs.nil | (apply evs.cons; case a => rfl))); (case hpre => exact rdw_ex (by (repeat first | with_reducible exact Pull.head | apply Pull.tail)) hr); (case hn => rfl))
  rintro r1 H1 ⟨k, rfl, hk, rfl⟩
  (try dsimp only [List.cons_append, List.nil_append])
  ((with_reducible apply Tri.op); rfl; (with_reducible apply o_geq); rfl; rfl; rfl; (with_reducible apply Tri.op); rfl; (with_reducible apply o_assign); rfl; rfl; (with_reducible refine Tri.nil (Tri.thenN (Tri.ret ?_))))
  ((first | with_reducible apply Tri.fin | with_reducible apply Tri.finN); (case hr => rfl); (case h => exact ResL.cons (Res1.tmp rfl) (ResL.nil)); (apply fin_R (Hn := [])); (case p => exact (by (repeat first | exact Pulls.nil | (apply Pulls.cons; repeat first | with_reducible exact Pull.head | apply Pull.tail)))); exact ⟨by simp only [tupled]; (congr 1; exact decide_eq_decide.2 hk), rfl⟩)

theorem keyAt_lt {ks : List KEY} {i n : Nat} (h : keyAt ks i = false) (hi : i < n) : keysTo ks n = false := keysTo_mono ks (i := i + 1) (by rw [keysTo, h, Bool.and_false]) n (by omega)
theorem kidAt_lt {ks : List Int} {i n : Nat} (h : kidAt ks i = false) (hi : i < n) : kidsTo ks n = false := kidsTo_mono ks (i := i + 1) (by rw [kidsTo, h, Bool.and_false]) n (by omega)
theorem inner_nok {ks : List KEY} {kids : List Int} (h : keysTo ks ks.length = false) : innerB ks kids = false := by rw [innerB, h]; rfl
theorem inner_nod {ks : List KEY} {kids : List Int} (h : kidsTo kids kids.length = false) : innerB ks kids = false := by rw [innerB, h, Bool.and_false]; rfl
set_option maxHeartbeats 4000000 in
theorem node_inner (kv dv : Value) (ks : List KEY) (kids : List Int) : SpecR Try.prog 107 #[kv, dv] (fun w => RdW w kv ks.length (KL ks) ∧ RdW w dv kids.length (NL kids)) (fun r H' => r = .bool (innerB ks kids) ∧ H' = []) := by
  refine SpecR.of (fun w hrr => ?_)
  obtain ⟨hr1, hr2⟩ := hrr
  have hlen1 := hr1.le
  have hlen2 := hr2.le
  refine Calls.enter Try.func107 rfl rfl rfl (St.rebase w) ?_
  simp only [argSlots]
  ((with_reducible refine Tri.seq (Tri.region ?_)); (with_reducible apply Tri.op); rfl; (with_reducible apply o_assign); rfl; rfl; (with_reducible refine Tri.nil (Tri.thenN (Tri.seq (Tri.seq (Tri.region ?_))))); (with_reducible apply Tri.op); rfl; (with_reducible apply o_move); rfl; rfl; (with_reducible apply Tri.op); rfl)
  ((with_reducible apply o_lenRd (hr := hr1)); (case hx => rfl); (case hn => rfl))
  ((with_reducible apply Tri.op); rfl; (with_reducible apply o_move); rfl; rfl; (with_reducible refine Tri.nil (Tri.thenN (Tri.block ?_))))
  ((first | with_reducible apply Tri.loop (α := { i : Nat // i ≤ ks.length ∧ keysTo ks i = true }) (m := fun x => ks.length - x.1) (Lx := fun x => [(0, kv), (1, dv), (9, kv), (10, .int .i64 (ks.length : Int)), (11, .int .i64 (x.1 : Int))]) (Hx := fun x => [Ex (hp w)]) (x0 := ⟨0, Nat.zero_le _, rfl⟩) | with_reducible apply TriR.loop (α := { i : Nat // i ≤ ks.length ∧ keysTo ks i = true }) (m := fun x => ks.length - x.1) (Lx := fun x => [(0, kv), (1, dv), (9, kv), (10, .int .i64 (ks.length : Int)), (11, .int .i64 (x.1 : Int))]) (Hx := fun x => [Ex (hp w)]) (x0 := ⟨0, Nat.zero_le _, rfl⟩)); (case hL => ((try dsimp only); (repeat (first | exact trivial | refine And.intro (by rfl) ?_)))); (case hH => ((try dsimp only); apply St.all; (repeat first | exact Pulls.nil | (apply Pulls.cons; repeat first | with_reducible exact Pull.head | apply Pull.tail))))); (rintro ⟨i, hi, hks⟩ mx hmx; (try dsimp only at hmx ⊢))
  ((with_reducible refine Tri.seq (Tri.region ?_)); (with_reducible apply Tri.op); rfl; (with_reducible apply o_lss); rfl; rfl; rfl; (with_reducible refine Tri.nil (Tri.thenN (Tri.seq ?_))))
  ((first | with_reducible apply Tri.condD | with_reducible apply TriR.condD); (case hc => rfl); (all_goals intro h))
  · have hil : i < ks.length := by omega
    ((with_reducible refine Tri.skip (Tri.thenN (Tri.seq (Tri.block (Tri.seq (Tri.region ?_)))))); (with_reducible apply Tri.op); rfl; (with_reducible apply o_move); rfl; rfl; (with_reducible apply Tri.op); rfl)
    ((with_reducible apply o_ixRd (hr := hr1) (j := i)); (case hx => rfl); (case hy => rfl); (case hj => rfl); (case hlt => exact hil); (case hl => (rw [KL_length]; omega)); (case hn => rfl))
    ((with_reducible apply Tri.op); rfl)
    ((with_reducible apply o_loadAggRd (hr := hr1)); (case hx => rfl); (case p => (repeat first | with_reducible exact Pull.head | apply Pull.tail)); (case hv => exact KL_two ks i hil); (case hl => rfl); (case hn => rfl))
    ((with_reducible apply Tri.op); rfl)
    ((with_reducible apply o_alloc); (case hn => rfl); intro b6)
    ((with_reducible apply Tri.op); rfl; (with_reducible apply o_assign); rfl; rfl; (with_reducible apply Tri.op); rfl)
    ((with_reducible apply o_storeAll (ys := keyL (ks.getD i (0, 0)))); (case hx => rfl); (case hy => rfl); (case p => (repeat first | with_reducible exact Pull.head | apply Pull.tail)); (case hl => rfl); (case hc => rfl); (case h1 => exact keyL_one _))
    ((with_reducible refine Tri.nil (Tri.thenN (Tri.seq ?_))))
    ((with_reducible apply Tri.quiet); (case hB => kernel_rfl))
    ((first | ((with_reducible apply TriQ.op); (case hg => rfl)) | ((with_reducible apply TriQ.opYes); (case hg => rfl); (case hy => rfl); (case hb => with_reducible rfl))); (case hd => rfl); (case hn => rfl); (case h => (intro K hK; ((with_reducible apply o_loadAll); (case hx => rfl); (case p => (repeat first | with_reducible exact Pull.head | apply Pull.tail)); (case hl => rfl); (case hn => rfl)); exact hK)))
    ((first | ((with_reducible apply TriQ.op); (case hg => rfl)) | ((with_reducible apply TriQ.opYes); (case hg => rfl); (case hy => rfl); (case hb => with_reducible rfl))); (case hd => rfl); (case hn => rfl); (case h => (intro K hK; (with_reducible apply o_callV (hs := node_rightKey (ks.getD i (0, 0)))); (case hargs => (repeat first | exact evs.nil | (apply evs.cons; case a => rfl))); (case hpre => exact fun _ _ => trivial); (case hn => rfl); exact hK)))
    ((first | ((with_reducible apply TriQ.op); rfl) | ((with_reducible apply TriQ.opYes); rfl; rfl; with_reducible rfl)); rfl; rfl; (intro K hK; (with_reducible apply o_not); rfl; rfl; exact hK); (first | ((with_reducible apply TriQ.op); rfl) | ((with_reducible apply TriQ.opYes); rfl; rfl; with_reducible rfl)); rfl; rfl; (intro K hK; (with_reducible apply o_move); rfl; rfl; exact hK))
    ((with_reducible apply TriQ.casesB 19); (case h => rfl); (all_goals intro g1))
    · have g1' : keyOk (ks.getD i (0, 0)) = false := by simpa using g1
      ((iterate 3 (with_reducible apply TriQ.opNo (c := true)); (iterate 6 rfl)); (iterate 8 (with_reducible apply TriQ.opNoU); (iterate 4 rfl)); (with_reducible apply TriQ.opNo (c := true)); (iterate 6 rfl); (first | ((with_reducible apply TriQ.op); rfl) | ((with_reducible apply TriQ.opYes); rfl; rfl; with_reducible rfl)); rfl; rfl; (intro K hK; (with_reducible apply o_pickT); (iterate 4 rfl); exact hK); (with_reducible refine TriQ.nil ?_))
      ((with_reducible refine Tri.thenN ?_); (with_reducible apply Tri.condT); rfl; rfl; (with_reducible refine Tri.seq (Tri.region ?_)); (with_reducible apply Tri.op); rfl; (with_reducible apply o_assign); rfl; rfl; (with_reducible refine Tri.nil (Tri.thenN (Tri.ret (Tri.blockR (Tri.thenR (Tri.thenR (Tri.blockR (Tri.thenR ?_)))))))))
      ((first | with_reducible apply Tri.fin | with_reducible apply Tri.finN); (case hr => rfl); (case h => exact ResL.cons (Res1.tmp rfl) (ResL.nil)); (apply fin_R (Hn := [])); (case p => exact (by (repeat first | exact Pulls.nil | (apply Pulls.cons; repeat first | with_reducible exact Pull.head | apply Pull.tail)))); exact ⟨by simp only [tupled]; (rw [inner_nok (keyAt_lt (by rw [keyAt, g1']; rfl) hil)]), rfl⟩)
    · have g1' : keyOk (ks.getD i (0, 0)) = true := by simpa using g1
      ((first | ((with_reducible apply TriQ.op); rfl) | ((with_reducible apply TriQ.opYes); rfl; rfl; with_reducible rfl)); rfl; rfl; (intro K hK; (with_reducible apply o_move); rfl; rfl; exact hK); (first | ((with_reducible apply TriQ.op); rfl) | ((with_reducible apply TriQ.opYes); rfl; rfl; with_reducible rfl)); rfl; rfl; (intro K hK; (with_reducible apply o_gtr); rfl; rfl; rfl; exact hK); (first | ((with_reducible apply TriQ.op); rfl) | ((with_reducible apply TriQ.opYes); rfl; rfl; with_reducible rfl)); rfl; rfl; (intro K hK; (with_reducible apply o_move); rfl; rfl; exact hK))
      ((with_reducible apply TriQ.casesB 22); (case h => rfl); (all_goals intro g2))
      · have g2' := of_decide_eq_true g2
        ((iterate 2 (first | ((with_reducible apply TriQ.op); rfl) | ((with_reducible apply TriQ.opYes); rfl; rfl; with_reducible rfl)); rfl; rfl; (intro K hK; (with_reducible apply o_move); rfl; rfl; exact hK)); (first | ((with_reducible apply TriQ.op); rfl) | ((with_reducible apply TriQ.opYes); rfl; rfl; with_reducible rfl)); rfl; rfl; (intro K hK; (with_reducible apply o_sub64); rfl; rfl; rfl; (omega); exact hK))
        ((first | ((with_reducible apply TriQ.op); (case hg => rfl)) | ((with_reducible apply TriQ.opYes); (case hg => rfl); (case hy => rfl); (case hb => with_reducible rfl))); (case hd => rfl); (case hn => rfl); (case h => (intro K hK; ((with_reducible apply o_ixRd (hr := hr1) (j := i - 1)); (case hx => rfl); (case hy => rfl); (case hj => omega); (case hlt => omega); (case hl => (rw [KL_length]; omega)); (case hn => rfl)); exact hK)))
        ((first | ((with_reducible apply TriQ.op); (case hg => rfl)) | ((with_reducible apply TriQ.opYes); (case hg => rfl); (case hy => rfl); (case hb => with_reducible rfl))); (case hd => rfl); (case hn => rfl); (case h => (intro K hK; ((with_reducible apply o_loadAggRd (hr := hr1)); (case hx => rfl); (case p => (repeat first | with_reducible exact Pull.head | apply Pull.tail)); (case hv => exact KL_two ks (i - 1) (by omega)); (case hl => rfl); (case hn => rfl)); exact hK)))
        ((first | ((with_reducible apply TriQ.op); (case hg => rfl)) | ((with_reducible apply TriQ.opYes); (case hg => rfl); (case hy => rfl); (case hb => with_reducible rfl))); (case hd => rfl); (case hn => rfl); (case h => (intro K hK; ((with_reducible apply o_loadAll); (case hx => rfl); (case p => (repeat first | with_reducible exact Pull.head | apply Pull.tail)); (case hl => rfl); (case hn => rfl)); exact hK)))
        ((first | ((with_reducible apply TriQ.op); (case hg => rfl)) | ((with_reducible apply TriQ.opYes); (case hg => rfl); (case hy => rfl); (case hb => with_reducible rfl))); (case hd => rfl); (case hn => rfl); (case h => (intro K hK; (with_reducible apply o_callV (hs := node_Less (ks.getD (i - 1) (0, 0)) (ks.getD i (0, 0)))); (case hargs => (repeat first | exact evs.nil | (apply evs.cons; case a => rfl))); (case hpre => exact fun _ _ => trivial); (case hn => rfl); exact hK)))
        ((first | ((with_reducible apply TriQ.op); rfl) | ((with_reducible apply TriQ.opYes); rfl; rfl; with_reducible rfl)); rfl; rfl; (intro K hK; (with_reducible apply o_not); rfl; rfl; exact hK); (first | ((with_reducible apply TriQ.op); rfl) | ((with_reducible apply TriQ.opYes); rfl; rfl; with_reducible rfl)); rfl; rfl; (intro K hK; (with_reducible apply o_pickT); (iterate 4 rfl); exact hK); (first | ((with_reducible apply TriQ.op); rfl) | ((with_reducible apply TriQ.opYes); rfl; rfl; with_reducible rfl)); rfl; rfl; (intro K hK; (with_reducible apply o_pickF); (iterate 4 rfl); exact hK); (with_reducible refine TriQ.nil ?_))
        ((with_reducible refine Tri.thenN ?_))
        ((first | with_reducible apply Tri.cond | with_reducible apply TriR.cond); (case hc => rfl); (all_goals intro g3))
        · have g3' : lessK (ks.getD (i - 1) (0, 0)) (ks.getD i (0, 0)) = false := by simpa using g3
          ((with_reducible refine Tri.seq (Tri.region ?_)); (with_reducible apply Tri.op); rfl; (with_reducible apply o_assign); rfl; rfl; (with_reducible refine Tri.nil (Tri.thenN (Tri.ret (Tri.blockR (Tri.thenR (Tri.thenR (Tri.blockR (Tri.thenR ?_)))))))))
          ((first | with_reducible apply Tri.fin | with_reducible apply Tri.finN); (case hr => rfl); (case h => exact ResL.cons (Res1.tmp rfl) (ResL.nil)); (apply fin_R (Hn := [])); (case p => exact (by (repeat first | exact Pulls.nil | (apply Pulls.cons; repeat first | with_reducible exact Pull.head | apply Pull.tail)))); exact ⟨by simp only [tupled]; (rw [inner_nok (keyAt_lt (by rw [keyAt, g3', decide_eq_false (by omega)]; simp) hil)]), rfl⟩)
        · have g3' : lessK (ks.getD (i - 1) (0, 0)) (ks.getD i (0, 0)) = true := by simpa using g3
          ((with_reducible refine Tri.skip (Tri.blockN (Tri.thenN (Tri.region ?_)))); (with_reducible apply Tri.op); rfl; (with_reducible apply o_add64); rfl; rfl; rfl; (omega); (with_reducible apply Tri.op); rfl; (with_reducible apply o_move); rfl; rfl; (with_reducible refine Tri.nil (Tri.thenN ?_)))
          ((with_reducible apply Tri.again (y := ⟨i + 1, by omega, by rw [keysTo, hks, keyAt, g1', g3']; simp⟩)); (case p => ((try dsimp only); (repeat first | exact Pulls.nil | (apply Pulls.cons; repeat first | with_reducible exact Pull.head | apply Pull.tail)))); (case hm => ((try dsimp only); omega)); (try dsimp only))
          (repeat (first | exact trivial | refine And.intro (by rfl) ?_))
      · have g2' := of_decide_eq_false g2
        ((iterate 8 (with_reducible apply TriQ.opNo (c := false)); (iterate 6 rfl)); (iterate 2 (first | ((with_reducible apply TriQ.op); rfl) | ((with_reducible apply TriQ.opYes); rfl; rfl; with_reducible rfl)); rfl; rfl; (intro K hK; (with_reducible apply o_pickF); (iterate 4 rfl); exact hK)); (with_reducible refine TriQ.nil ?_))
        ((with_reducible refine Tri.thenN ?_); (with_reducible apply Tri.condF); rfl; rfl; (with_reducible refine Tri.skip (Tri.blockN (Tri.thenN (Tri.region ?_)))); (with_reducible apply Tri.op); rfl; (with_reducible apply o_add64); rfl; rfl; rfl; (omega); (with_reducible apply Tri.op); rfl; (with_reducible apply o_move); rfl; rfl; (with_reducible refine Tri.nil (Tri.thenN ?_)))
        ((with_reducible apply Tri.again (y := ⟨i + 1, by omega, by rw [keysTo, hks, keyAt, g1', decide_eq_true (show i = 0 by omega)]; simp⟩)); (case p => ((try dsimp only); (repeat first | exact Pulls.nil | (apply Pulls.cons; repeat first | with_reducible exact Pull.head | apply Pull.tail)))); (case hm => ((try dsimp only); omega)); (try dsimp only))
        (repeat (first | exact trivial | refine And.intro (by rfl) ?_))
  · obtain rfl : i = ks.length := by omega
    ((with_reducible refine Tri.exit (Tri.thenE (Tri.thenE (Tri.blockE (Tri.thenN (Tri.seq (Tri.seq (Tri.region ?_)))))))); (with_reducible apply Tri.op); rfl; (with_reducible apply o_move); rfl; rfl; (with_reducible apply Tri.op); rfl)
    ((with_reducible apply o_lenRd (hr := hr2)); (case hx => rfl); (case hn => rfl))
    ((with_reducible apply Tri.op); rfl; (with_reducible apply o_move); rfl; rfl; (with_reducible refine Tri.nil (Tri.thenN (Tri.block ?_))))
    ((first | with_reducible apply Tri.loop (α := { i : Nat // i ≤ kids.length ∧ kidsTo kids i = true }) (m := fun x => kids.length - x.1) (Lx := fun x => [(0, kv), (1, dv), (34, dv), (35, .int .i64 (kids.length : Int)), (36, .int .i64 (x.1 : Int))]) (Hx := fun x => [Ex (hp w)]) (x0 := ⟨0, Nat.zero_le _, rfl⟩) | with_reducible apply TriR.loop (α := { i : Nat // i ≤ kids.length ∧ kidsTo kids i = true }) (m := fun x => kids.length - x.1) (Lx := fun x => [(0, kv), (1, dv), (34, dv), (35, .int .i64 (kids.length : Int)), (36, .int .i64 (x.1 : Int))]) (Hx := fun x => [Ex (hp w)]) (x0 := ⟨0, Nat.zero_le _, rfl⟩)); (case hL => ((try dsimp only); (repeat (first | exact trivial | refine And.intro (by rfl) ?_)))); (case hH => ((try dsimp only); apply St.all; (repeat first | exact Pulls.nil | (apply Pulls.cons; repeat first | with_reducible exact Pull.head | apply Pull.tail))))); (rintro ⟨i, hi, hds⟩ mx hmx; (try dsimp only at hmx ⊢))
    ((with_reducible refine Tri.seq (Tri.region ?_)); (with_reducible apply Tri.op); rfl; (with_reducible apply o_lss); rfl; rfl; rfl; (with_reducible refine Tri.nil (Tri.thenN (Tri.seq ?_))))
    ((first | with_reducible apply Tri.condD | with_reducible apply TriR.condD); (case hc => rfl); (all_goals intro h2))
    · have hil : i < kids.length := by omega
      ((with_reducible refine Tri.skip (Tri.thenN (Tri.seq (Tri.block (Tri.seq (Tri.region ?_)))))); (with_reducible apply Tri.op); rfl; (with_reducible apply o_move); rfl; rfl; (with_reducible apply Tri.op); rfl)
      ((with_reducible apply o_ixRd (hr := hr2) (j := i)); (case hx => rfl); (case hy => rfl); (case hj => rfl); (case hlt => exact hil); (case hl => (rw [NL_length]; omega)); (case hn => rfl))
      ((with_reducible apply Tri.op); rfl)
      ((with_reducible apply o_loadRd (hr := hr2)); (case hx => rfl); (case p => (repeat first | with_reducible exact Pull.head | apply Pull.tail)); (case hv => exact (by rw [Nat.mul_one]; exact NL_get kids i hil)); (case hn => rfl))
      ((with_reducible apply Tri.op); rfl; (with_reducible apply o_assign); rfl; rfl; (with_reducible apply Tri.op); rfl; (with_reducible apply o_assign); rfl; rfl; (with_reducible refine Tri.nil (Tri.thenN (Tri.seq (Tri.region ?_)))); (with_reducible apply Tri.op); rfl; (with_reducible apply o_move); rfl; rfl; (with_reducible apply Tri.op); rfl)
      ((with_reducible apply o_callV (hs := node_between (kids.getD i 0) 2 511)); (case hargs => (repeat first | exact evs.nil | (apply evs.cons; case a => rfl))); (case hpre => exact fun _ _ => trivial); (case hn => rfl))
      ((with_reducible apply Tri.op); rfl; (with_reducible apply o_not); rfl; rfl; (with_reducible apply Tri.op); rfl; (with_reducible apply o_move); rfl; rfl)
      ((with_reducible apply Tri.casesB 44); (case h => rfl); (all_goals intro g1))
      · have g1' : betw (kids.getD i 0) 2 511 = false := by simpa using g1
        ((iterate 5 (with_reducible apply Tri.opNo (c := true)); (iterate 6 rfl)); (with_reducible apply Tri.op); rfl; (with_reducible apply o_pickT); (iterate 4 rfl); (with_reducible refine Tri.nil (Tri.thenN ?_)); (with_reducible apply Tri.condT); rfl; rfl; (with_reducible refine Tri.seq (Tri.region ?_)); (with_reducible apply Tri.op); rfl; (with_reducible apply o_assign); rfl; rfl; (with_reducible refine Tri.nil (Tri.thenN (Tri.ret (Tri.blockR (Tri.thenR (Tri.thenR (Tri.blockR (Tri.thenR ?_)))))))))
        ((first | with_reducible apply Tri.fin | with_reducible apply Tri.finN); (case hr => rfl); (case h => exact ResL.cons (Res1.tmp rfl) (ResL.nil)); (apply fin_R (Hn := [])); (case p => exact (by (repeat first | exact Pulls.nil | (apply Pulls.cons; repeat first | with_reducible exact Pull.head | apply Pull.tail)))); exact ⟨by simp only [tupled]; (rw [inner_nod (kidAt_lt (by rw [kidAt, g1']; rfl) hil)]), rfl⟩)
      · have g1' : betw (kids.getD i 0) 2 511 = true := by simpa using g1
        ((with_reducible apply Tri.opYes); rfl; rfl; rfl; (with_reducible apply o_move); rfl; rfl; (with_reducible apply Tri.opYes); rfl; rfl; rfl; (with_reducible apply o_move); rfl; rfl; (with_reducible apply Tri.opYes); rfl; rfl; rfl)
        ((with_reducible apply o_slice (lo := 0) (hi := i)); (case hx => rfl); (case hr => exact rdw_ex (by (repeat first | with_reducible exact Pull.head | apply Pull.tail)) hr2); (case hol => first | exact fun _ _ => rfl | exact fun a ha => congrArg some (ha.eval rfl)); (case hoh => first | exact fun _ _ => rfl | exact fun a ha => congrArg some (ha.eval rfl)); (case hlo => first | exact .inr ⟨rfl, rfl⟩ | exact .inl ⟨_, rfl⟩ | exact .inl ⟨_, (by congr 2; omega)⟩); (case hhi => first | exact .inr ⟨rfl, rfl⟩ | exact .inl ⟨_, rfl⟩ | exact .inl ⟨_, (by congr 2; omega)⟩); (case hlh => omega); (case hhm => omega); (case hn => rfl))
        ((with_reducible apply Tri.opYes); rfl; rfl; rfl; (with_reducible apply o_move); rfl; rfl; (with_reducible apply Tri.opYes); rfl; rfl; rfl)
        have hsub : ∀ w', RdW w' dv kids.length (NL kids) → RdW w' (subv dv 1 0 i) (kids.take i).length (NL (kids.take i)) := fun w' h => by
          have := h.subv (size := 1) (lo := 0) (hi := i) (by omega) (by omega)
          rw [NL_sub, Nat.sub_zero] at this
          rw [List.length_take, show min i kids.length = i by omega]; exact this
        ((with_reducible apply o_callV (hs := slices_Contains (subv dv 1 0 i) (kids.take i) (kids.getD i 0))); (case hargs => (repeat first | exact evs.nil | (apply evs.cons; case a => rfl))); (case hpre => exact fun w' hw' => hsub w' (rdw_ex (by (repeat first | with_reducible exact Pull.head | apply Pull.tail)) hr2 w' hw')); (case hn => rfl))
        ((with_reducible apply Tri.op); rfl; (with_reducible apply o_pickF); (iterate 4 rfl); (with_reducible refine Tri.nil (Tri.thenN ?_)))
        ((first | with_reducible apply Tri.cond | with_reducible apply TriR.cond); (case hc => rfl); (all_goals intro g2))
        · ((with_reducible refine Tri.seq (Tri.region ?_)); (with_reducible apply Tri.op); rfl; (with_reducible apply o_assign); rfl; rfl; (with_reducible refine Tri.nil (Tri.thenN (Tri.ret (Tri.blockR (Tri.thenR (Tri.thenR (Tri.blockR (Tri.thenR ?_)))))))))
          ((first | with_reducible apply Tri.fin | with_reducible apply Tri.finN); (case hr => rfl); (case h => exact ResL.cons (Res1.tmp rfl) (ResL.nil)); (apply fin_R (Hn := [])); (case p => exact (by (repeat first | exact Pulls.nil | (apply Pulls.cons; repeat first | with_reducible exact Pull.head | apply Pull.tail)))); exact ⟨by simp only [tupled]; (rw [inner_nod (kidAt_lt (by rw [kidAt, g2]; simp) hil)]), rfl⟩)
        · ((with_reducible refine Tri.skip (Tri.blockN (Tri.thenN (Tri.region ?_)))); (with_reducible apply Tri.op); rfl; (with_reducible apply o_add64); rfl; rfl; rfl; (omega); (with_reducible apply Tri.op); rfl; (with_reducible apply o_move); rfl; rfl; (with_reducible refine Tri.nil (Tri.thenN ?_)))
          ((with_reducible apply Tri.again (y := ⟨i + 1, by omega, by rw [kidsTo, hds, kidAt, g1', g2]; simp⟩)); (case p => ((try dsimp only); (repeat first | exact Pulls.nil | (apply Pulls.cons; repeat first | with_reducible exact Pull.head | apply Pull.tail)))); (case hm => ((try dsimp only); omega)); (try dsimp only))
          (repeat (first | exact trivial | refine And.intro (by rfl) ?_))
    · obtain rfl : i = kids.length := by omega
      ((with_reducible refine Tri.exit (Tri.thenE (Tri.thenE (Tri.blockE (Tri.thenN (Tri.seq (Tri.region ?_))))))); (with_reducible apply Tri.op); rfl; (with_reducible apply o_move); rfl; rfl; (with_reducible apply Tri.op); rfl)
      ((with_reducible apply o_lenRd (hr := hr1)); (case hx => rfl); (case hn => rfl))
      ((with_reducible apply Tri.op); rfl; (with_reducible apply o_move); rfl; rfl; (with_reducible apply Tri.op); rfl)
      ((with_reducible apply o_lenRd (hr := hr2)); (case hx => rfl); (case hn => rfl))
      ((with_reducible apply Tri.op); rfl; (with_reducible apply o_eql); rfl; rfl; rfl; (with_reducible apply Tri.op); rfl; (with_reducible apply o_move); rfl; rfl)
      ((with_reducible apply Tri.casesB 57); (case h => rfl); (all_goals intro g1))
      · have g1' := of_decide_eq_true g1
        ((with_reducible apply Tri.opYes); rfl; rfl; rfl; (with_reducible apply o_move); rfl; rfl; (with_reducible apply Tri.opYes); rfl; rfl; rfl)
        ((with_reducible apply o_lenRd (hr := hr2)); (case hx => rfl); (case hn => rfl))
        ((with_reducible apply Tri.opYes); rfl; rfl; rfl)
        ((with_reducible apply o_callV (hs := node_between (kids.length : Int) 1 16)); (case hargs => (repeat first | exact evs.nil | (apply evs.cons; case a => rfl))); (case hpre => exact fun _ _ => trivial); (case hn => rfl))
        ((with_reducible apply Tri.op); rfl; (with_reducible apply o_pickT); (iterate 4 rfl); (with_reducible apply Tri.op); rfl; (with_reducible apply o_assign); rfl; rfl; (with_reducible refine Tri.nil (Tri.thenN (Tri.ret ?_))))
        ((first | with_reducible apply Tri.fin | with_reducible apply Tri.finN); (case hr => rfl); (case h => exact ResL.cons (Res1.tmp rfl) (ResL.nil)); (apply fin_R (Hn := [])); (case p => exact (by (repeat first | exact Pulls.nil | (apply Pulls.cons; repeat first | with_reducible exact Pull.head | apply Pull.tail)))); exact ⟨by simp only [tupled]; (rw [innerB, hks, hds, decide_eq_true (show ks.length = kids.length by omega)]; rfl), rfl⟩)
      · have g1' := of_decide_eq_false g1
        ((iterate 3 (with_reducible apply Tri.opNo (c := false)); (iterate 6 rfl)); (with_reducible apply Tri.op); rfl; (with_reducible apply o_pickF); (iterate 4 rfl); (with_reducible apply Tri.op); rfl; (with_reducible apply o_assign); rfl; rfl; (with_reducible refine Tri.nil (Tri.thenN (Tri.ret ?_))))
        ((first | with_reducible apply Tri.fin | with_reducible apply Tri.finN); (case hr => rfl); (case h => exact ResL.cons (Res1.tmp rfl) (ResL.nil)); (apply fin_R (Hn := [])); (case p => exact (by (repeat first | exact Pulls.nil | (apply Pulls.cons; repeat first | with_reducible exact Pull.head | apply Pull.tail)))); exact ⟨by simp only [tupled]; (rw [innerB, hks, hds, decide_eq_false (show ¬ ks.length = kids.length by omega)]; rfl), rfl⟩)
end Go.Proofs.Ytckdlfbbkemklaa
