import Derived.Test.YtckdlfbbkemklaaZPgPlain
import Derived.Test.YtckdlfbbkemklaaZDkWalk
import Derived.Test.YtckdlfbbkemklaaZB
/- page: what its small functions answer. -/
namespace Go.Proofs.Ytckdlfbbkemklaa
open Go Go.RowKit Go.Gv
set_option linter.unusedVariables false
set_option linter.unusedSimpArgs false

def pgL (p : PG) (v : Value) : List Value := [.int .u8 (p.k.toNat : Int), .int .i64 p.a, .int .u64 (p.g : Int), v]
def pgV (p : PG) (v : Value) : Value := .agg (pgL p v).toArray
theorem bytes_eq' (a b : List UInt8) : decide ((⟨a.toArray⟩ : ByteArray) = ⟨b.toArray⟩) = decide (a = b) := by
  apply decide_eq_decide.2
  constructor
  · intro h
    have := congrArg ByteArray.data h
    simpa using this
  · rintro rfl; rfl
theorem u8i (x : UInt8) (n : Nat) : decide (((x.toNat : Nat) : Int) = (n : Int)) = decide (x.toNat = n) := by
  apply decide_eq_decide.2; omega
set_option maxHeartbeats 1000000 in
theorem page_known (k : UInt8) : SpecR Try.prog 117 #[.int .u8 (k.toNat : Int)] (fun _ => True) (fun r H' => r = .bool (knownK k) ∧ H' = []) := by
  refine SpecR.of (fun w _ => ?_)
  refine Calls.enter Try.func117 rfl rfl rfl (St.rebase w) ?_
  simp only [argSlots]
  ((with_reducible refine Tri.seq (Tri.region ?_)); (with_reducible apply Tri.op); rfl; (with_reducible apply o_assign); rfl; rfl; (with_reducible refine Tri.nil (Tri.thenN (Tri.seq (Tri.seq (Tri.region ?_))))); (with_reducible apply Tri.op); rfl; (with_reducible apply o_move); rfl; rfl; (with_reducible refine Tri.nil (Tri.thenN (Tri.block (Tri.seq (Tri.seq (Tri.region ?_)))))); (with_reducible apply Tri.op); rfl; (with_reducible apply o_eql); rfl; rfl; rfl; (with_reducible apply Tri.op); rfl; (with_reducible apply o_assign); rfl; rfl; (with_reducible refine Tri.nil (Tri.thenN ?_)))
  ((with_reducible apply Tri.casesB 4); (case h => rfl); (all_goals intro h1))
  · have g1 := of_decide_eq_true h1
    ((with_reducible apply Tri.condT); rfl; rfl; (with_reducible refine Tri.skip (Tri.thenN ?_)); (with_reducible apply Tri.condT); rfl; rfl; (with_reducible refine Tri.seq (Tri.region ?_)); (with_reducible apply Tri.op); rfl; (with_reducible apply o_assign); rfl; rfl; (with_reducible refine Tri.nil (Tri.thenN (Tri.ret (Tri.blockR (Tri.thenR ?_))))))
    ((first | with_reducible apply Tri.fin | with_reducible apply Tri.finN); (case hr => rfl); (case h => exact ResL.cons (Res1.tmp rfl) (ResL.nil)); (apply fin_R (Hn := [])); (case p => exact (by (repeat first | exact Pulls.nil | (apply Pulls.cons; repeat first | with_reducible exact Pull.head | apply Pull.tail)))); exact ⟨by simp only [tupled]; (rw [knownK, decide_eq_true (show k.toNat = 83 by omega)]; rfl), rfl⟩)
  · have g1 := of_decide_eq_false h1
    ((with_reducible apply Tri.condF); rfl; rfl; (with_reducible refine Tri.seq (Tri.region ?_)); (with_reducible apply Tri.op); rfl; (with_reducible apply o_eql); rfl; rfl; rfl; (with_reducible apply Tri.op); rfl; (with_reducible apply o_assign); rfl; rfl; (with_reducible refine Tri.nil (Tri.thenN ?_)))
    ((with_reducible apply Tri.casesB 4); (case h => rfl); (all_goals intro h2))
    · have g2 := of_decide_eq_true h2
      ((with_reducible apply Tri.condT); rfl; rfl; (with_reducible refine Tri.skip (Tri.thenN ?_)); (with_reducible apply Tri.condT); rfl; rfl; (with_reducible refine Tri.seq (Tri.region ?_)); (with_reducible apply Tri.op); rfl; (with_reducible apply o_assign); rfl; rfl; (with_reducible refine Tri.nil (Tri.thenN (Tri.ret (Tri.blockR (Tri.thenR ?_))))))
      ((first | with_reducible apply Tri.fin | with_reducible apply Tri.finN); (case hr => rfl); (case h => exact ResL.cons (Res1.tmp rfl) (ResL.nil)); (apply fin_R (Hn := [])); (case p => exact (by (repeat first | exact Pulls.nil | (apply Pulls.cons; repeat first | with_reducible exact Pull.head | apply Pull.tail)))); exact ⟨by simp only [tupled]; (rw [knownK, decide_eq_true (show k.toNat = 76 by omega), Bool.or_true]; rfl), rfl⟩)
    · have g2 := of_decide_eq_false h2
      ((with_reducible apply Tri.condF); rfl; rfl; (with_reducible refine Tri.seq (Tri.region ?_)); (with_reducible apply Tri.op); rfl; (with_reducible apply o_eql); rfl; rfl; rfl; (with_reducible apply Tri.op); rfl; (with_reducible apply o_assign); rfl; rfl; (with_reducible refine Tri.nil (Tri.thenN ?_)))
      ((with_reducible apply Tri.casesB 4); (case h => rfl); (all_goals intro h3))
      · have g3 := of_decide_eq_true h3
        ((with_reducible apply Tri.condT); rfl; rfl; (with_reducible refine Tri.skip (Tri.thenN ?_)); (with_reducible apply Tri.condT); rfl; rfl; (with_reducible refine Tri.seq (Tri.region ?_)); (with_reducible apply Tri.op); rfl; (with_reducible apply o_assign); rfl; rfl; (with_reducible refine Tri.nil (Tri.thenN (Tri.ret (Tri.blockR (Tri.thenR ?_))))))
        ((first | with_reducible apply Tri.fin | with_reducible apply Tri.finN); (case hr => rfl); (case h => exact ResL.cons (Res1.tmp rfl) (ResL.nil)); (apply fin_R (Hn := [])); (case p => exact (by (repeat first | exact Pulls.nil | (apply Pulls.cons; repeat first | with_reducible exact Pull.head | apply Pull.tail)))); exact ⟨by simp only [tupled]; (rw [knownK, decide_eq_true (show k.toNat = 73 by omega), Bool.or_true]; rfl), rfl⟩)
      · have g3 := of_decide_eq_false h3
        ((with_reducible apply Tri.condF); rfl; rfl; (with_reducible refine Tri.region ?_); (with_reducible apply Tri.op); rfl; (with_reducible apply o_eql); rfl; rfl; rfl; (with_reducible apply Tri.op); rfl; (with_reducible apply o_assign); rfl; rfl; (with_reducible refine Tri.nil (Tri.thenN ?_)))
        ((with_reducible apply Tri.casesB 4); (case h => rfl); (all_goals intro h4))
        · have g4 := of_decide_eq_true h4
          ((with_reducible apply Tri.condT); rfl; rfl; (with_reducible refine Tri.seq (Tri.region ?_)); (with_reducible apply Tri.op); rfl; (with_reducible apply o_assign); rfl; rfl; (with_reducible refine Tri.nil (Tri.thenN (Tri.ret (Tri.blockR (Tri.thenR ?_))))))
          ((first | with_reducible apply Tri.fin | with_reducible apply Tri.finN); (case hr => rfl); (case h => exact ResL.cons (Res1.tmp rfl) (ResL.nil)); (apply fin_R (Hn := [])); (case p => exact (by (repeat first | exact Pulls.nil | (apply Pulls.cons; repeat first | with_reducible exact Pull.head | apply Pull.tail)))); exact ⟨by simp only [tupled]; (rw [knownK, decide_eq_true (show k.toNat = 66 by omega), Bool.or_true]), rfl⟩)
        · have g4 := of_decide_eq_false h4
          ((with_reducible apply Tri.condF); rfl; rfl; (with_reducible refine Tri.skip (Tri.blockN (Tri.thenN (Tri.seq (Tri.region ?_))))); (with_reducible apply Tri.op); rfl; (with_reducible apply o_assign); rfl; rfl; (with_reducible refine Tri.nil (Tri.thenN (Tri.ret ?_))))
          ((first | with_reducible apply Tri.fin | with_reducible apply Tri.finN); (case hr => rfl); (case h => exact ResL.cons (Res1.tmp rfl) (ResL.nil)); (apply fin_R (Hn := [])); (case p => exact (by (repeat first | exact Pulls.nil | (apply Pulls.cons; repeat first | with_reducible exact Pull.head | apply Pull.tail)))); exact ⟨by simp only [tupled]; (rw [knownK, decide_eq_false (show ¬ k.toNat = 83 by omega), decide_eq_false (show ¬ k.toNat = 76 by omega), decide_eq_false (show ¬ k.toNat = 73 by omega), decide_eq_false (show ¬ k.toNat = 66 by omega)]; rfl), rfl⟩)

set_option maxHeartbeats 1000000 in
theorem ref03_kind (k : UInt8) : SpecR Try.prog 96 #[.int .u8 (k.toNat : Int)] (fun _ => True) (fun r H' => r = .bool (knownK k) ∧ H' = []) := by
  refine SpecR.of (fun w _ => ?_)
  refine Calls.enter Try.func96 rfl rfl rfl (St.rebase w) ?_
  simp only [argSlots]
  ((with_reducible refine Tri.seq (Tri.region ?_)); (with_reducible apply Tri.op); rfl; (with_reducible apply o_assign); rfl; rfl; (with_reducible refine Tri.nil (Tri.thenN (Tri.seq (Tri.region ?_)))); (with_reducible apply Tri.op); rfl; (with_reducible apply o_move); rfl; rfl; (with_reducible apply Tri.op); rfl; (with_reducible apply o_eql); rfl; rfl; rfl; (with_reducible apply Tri.op); rfl; (with_reducible apply o_move); rfl; rfl)
  ((with_reducible apply Tri.casesB 5); (case h => rfl); (all_goals intro h1))
  · have h1' := of_decide_eq_true h1
    ((iterate 2 (with_reducible apply Tri.opNo (c := true)); (iterate 6 rfl)); (with_reducible apply Tri.op); rfl; (with_reducible apply o_pickT); (iterate 4 rfl); (with_reducible apply Tri.op); rfl; (with_reducible apply o_move); rfl; rfl; (iterate 2 (with_reducible apply Tri.opNo (c := true)); (iterate 6 rfl)); (with_reducible apply Tri.op); rfl; (with_reducible apply o_pickT); (iterate 4 rfl); (with_reducible apply Tri.op); rfl; (with_reducible apply o_move); rfl; rfl; (iterate 2 (with_reducible apply Tri.opNo (c := true)); (iterate 6 rfl)); (with_reducible apply Tri.op); rfl; (with_reducible apply o_pickT); (iterate 4 rfl); (with_reducible apply Tri.op); rfl; (with_reducible apply o_assign); rfl; rfl; (with_reducible refine Tri.nil (Tri.thenN (Tri.ret ?_))))
    ((first | with_reducible apply Tri.fin | with_reducible apply Tri.finN); (case hr => rfl); (case h => exact ResL.cons (Res1.tmp rfl) (ResL.nil)); (apply fin_R (Hn := [])); (case p => exact (by (repeat first | exact Pulls.nil | (apply Pulls.cons; repeat first | with_reducible exact Pull.head | apply Pull.tail)))); exact ⟨by simp only [tupled]; (rw [knownK, decide_eq_true (show k.toNat = 83 by omega)]; rfl), rfl⟩)
  · have h1' := of_decide_eq_false h1
    ((with_reducible apply Tri.opYes); rfl; rfl; rfl; (with_reducible apply o_move); rfl; rfl; (with_reducible apply Tri.opYes); rfl; rfl; rfl; (with_reducible apply o_eql); rfl; rfl; rfl; (with_reducible apply Tri.op); rfl; (with_reducible apply o_pickF); (iterate 4 rfl); (with_reducible apply Tri.op); rfl; (with_reducible apply o_move); rfl; rfl)
    ((with_reducible apply Tri.casesB 9); (case h => rfl); (all_goals intro h2))
    · have h2' := of_decide_eq_true h2
      ((iterate 2 (with_reducible apply Tri.opNo (c := true)); (iterate 6 rfl)); (with_reducible apply Tri.op); rfl; (with_reducible apply o_pickT); (iterate 4 rfl); (with_reducible apply Tri.op); rfl; (with_reducible apply o_move); rfl; rfl; (iterate 2 (with_reducible apply Tri.opNo (c := true)); (iterate 6 rfl)); (with_reducible apply Tri.op); rfl; (with_reducible apply o_pickT); (iterate 4 rfl); (with_reducible apply Tri.op); rfl; (with_reducible apply o_assign); rfl; rfl; (with_reducible refine Tri.nil (Tri.thenN (Tri.ret ?_))))
      ((first | with_reducible apply Tri.fin | with_reducible apply Tri.finN); (case hr => rfl); (case h => exact ResL.cons (Res1.tmp rfl) (ResL.nil)); (apply fin_R (Hn := [])); (case p => exact (by (repeat first | exact Pulls.nil | (apply Pulls.cons; repeat first | with_reducible exact Pull.head | apply Pull.tail)))); exact ⟨by simp only [tupled]; (rw [knownK, decide_eq_true (show k.toNat = 76 by omega), Bool.or_true]; rfl), rfl⟩)
    · have h2' := of_decide_eq_false h2
      ((with_reducible apply Tri.opYes); rfl; rfl; rfl; (with_reducible apply o_move); rfl; rfl; (with_reducible apply Tri.opYes); rfl; rfl; rfl; (with_reducible apply o_eql); rfl; rfl; rfl; (with_reducible apply Tri.op); rfl; (with_reducible apply o_pickF); (iterate 4 rfl); (with_reducible apply Tri.op); rfl; (with_reducible apply o_move); rfl; rfl)
      ((with_reducible apply Tri.casesB 13); (case h => rfl); (all_goals intro h3))
      · have h3' := of_decide_eq_true h3
        ((iterate 2 (with_reducible apply Tri.opNo (c := true)); (iterate 6 rfl)); (with_reducible apply Tri.op); rfl; (with_reducible apply o_pickT); (iterate 4 rfl); (with_reducible apply Tri.op); rfl; (with_reducible apply o_assign); rfl; rfl; (with_reducible refine Tri.nil (Tri.thenN (Tri.ret ?_))))
        ((first | with_reducible apply Tri.fin | with_reducible apply Tri.finN); (case hr => rfl); (case h => exact ResL.cons (Res1.tmp rfl) (ResL.nil)); (apply fin_R (Hn := [])); (case p => exact (by (repeat first | exact Pulls.nil | (apply Pulls.cons; repeat first | with_reducible exact Pull.head | apply Pull.tail)))); exact ⟨by simp only [tupled]; (rw [knownK, decide_eq_true (show k.toNat = 73 by omega), Bool.or_true]; rfl), rfl⟩)
      · have h3' := of_decide_eq_false h3
        ((with_reducible apply Tri.opYes); rfl; rfl; rfl; (with_reducible apply o_move); rfl; rfl; (with_reducible apply Tri.opYes); rfl; rfl; rfl; (with_reducible apply o_eql); rfl; rfl; rfl; (with_reducible apply Tri.op); rfl; (with_reducible apply o_pickF); (iterate 4 rfl); (with_reducible apply Tri.op); rfl; (with_reducible apply o_assign); rfl; rfl; (with_reducible refine Tri.nil (Tri.thenN (Tri.ret ?_))))
        ((first | with_reducible apply Tri.fin | with_reducible apply Tri.finN); (case hr => rfl); (case h => exact ResL.cons (Res1.tmp rfl) (ResL.nil)); (apply fin_R (Hn := [])); (case p => exact (by (repeat first | exact Pulls.nil | (apply Pulls.cons; repeat first | with_reducible exact Pull.head | apply Pull.tail)))); exact ⟨by simp only [tupled]; (rw [knownK, decide_eq_false (show ¬ k.toNat = 83 by omega), decide_eq_false (show ¬ k.toNat = 76 by omega), decide_eq_false (show ¬ k.toNat = 73 by omega), Bool.false_or, Bool.false_or, Bool.false_or]; exact congrArg Value.bool (u8i k 66)), rfl⟩)

theorem pgL_len (p : PG) (v : Value) : (pgL p v).length = 4 := rfl
theorem pgL_one (p : PG) (A : Option Addr) (m c : Nat) : ∀ y ∈ pgL p (.slice A m c), y.oneCell' = true := by
  intro y hy; simp [pgL] at hy; rcases hy with rfl | rfl | rfl | rfl <;> rfl
theorem byte_shr (n k : Nat) (hk : k < 8) : ((n : Int) / 2 ^ min (8 * (k : Int)).toNat IntKind.u64.bits) % 256 = ((UInt8.ofNat (n / 2 ^ (8 * k))).toNat : Int) := by
  have e : min (8 * (k : Int)).toNat IntKind.u64.bits = 8 * k := by
    show min (8 * (k : Int)).toNat 64 = 8 * k
    omega
  rw [e, UInt8.toNat_ofNat', Int.natCast_emod, Int.natCast_ediv, Int.natCast_pow]; rfl
set_option maxHeartbeats 1000000 in
theorem page_big (v : Value) (l : List UInt8) (n size : Nat) (hs : size ≤ 8) (hl : l.length ≤ 1000000) : Gv.Spec Try.prog 118 #[v, .int .u64 (n : Int), .int .i64 (size : Int)] [own 5 1 v l.length (B8 l)]
    (fun r H' => H' = [own 5 1 r (l ++ bigB n size).length (B8 (l ++ bigB n size))]) := by
  refine Gv.Spec.of (fun w h0 hw => ?_)
  refine Calls.enter Try.func118 rfl rfl rfl hw ?_
  simp only [argSlots]
  (try dsimp only [List.cons_append, List.nil_append])
  ((with_reducible refine Tri.seq (Tri.region ?_)); (with_reducible apply Tri.op); rfl; (with_reducible apply o_assign); rfl; rfl; (with_reducible refine Tri.nil (Tri.thenN (Tri.seq (Tri.seq (Tri.region ?_))))); (with_reducible apply Tri.op); rfl; (with_reducible apply o_move); rfl; rfl; (with_reducible apply Tri.op); rfl; (with_reducible apply o_sub64); rfl; rfl; rfl; (omega); (with_reducible apply Tri.op); rfl; (with_reducible apply o_assign); rfl; rfl; (with_reducible refine Tri.nil (Tri.thenN (Tri.block ?_))))
  ((first | with_reducible apply Tri.loop (α := Σ' (k : Nat) (c : List UInt8) (u : Value), k ≤ size ∧ c ++ bigB n k = l ++ bigB n size) (m := fun x => x.1) (Lx := fun x => [(0, x.2.2.1), (1, .int .u64 (n : Int)), (7, .int .i64 ((x.1 : Int) - 1))]) (Hx := fun x => [own 5 1 x.2.2.1 x.2.1.length (B8 x.2.1), Ex h0]) (x0 := ⟨size, l, v, Nat.le_refl _, rfl⟩) | with_reducible apply TriR.loop (α := Σ' (k : Nat) (c : List UInt8) (u : Value), k ≤ size ∧ c ++ bigB n k = l ++ bigB n size) (m := fun x => x.1) (Lx := fun x => [(0, x.2.2.1), (1, .int .u64 (n : Int)), (7, .int .i64 ((x.1 : Int) - 1))]) (Hx := fun x => [own 5 1 x.2.2.1 x.2.1.length (B8 x.2.1), Ex h0]) (x0 := ⟨size, l, v, Nat.le_refl _, rfl⟩)); (case hL => ((try dsimp only); (repeat (first | exact trivial | refine And.intro (by rfl) ?_)))); (case hH => ((try dsimp only); apply St.all; (repeat first | exact Pulls.nil | (apply Pulls.cons; repeat first | with_reducible exact Pull.head | apply Pull.tail))))); (rintro ⟨k, c, u, hk, hc⟩ mx hmx; (try dsimp only at hmx ⊢))
  have hcl : c.length + k = l.length + size := by
    have := congrArg List.length hc
    simpa [bigB_length] using this
  ((with_reducible refine Tri.seq (Tri.seq (Tri.region ?_))); (with_reducible apply Tri.op); rfl; (with_reducible apply o_move); rfl; rfl; (with_reducible apply Tri.op); rfl; (with_reducible apply o_geq); rfl; rfl; rfl; (with_reducible refine Tri.nil (Tri.thenN ?_)))
  ((first | with_reducible apply Tri.condD | with_reducible apply TriR.condD); (case hc => rfl); (all_goals intro h))
  · obtain ⟨j, rfl⟩ : ∃ j, k = j + 1 := ⟨k - 1, by omega⟩
    ((with_reducible refine Tri.skip (Tri.thenN (Tri.seq (Tri.block (Tri.region ?_))))); (with_reducible apply Tri.op); rfl; (with_reducible apply o_move); rfl; rfl; (with_reducible apply Tri.op); rfl; (with_reducible apply o_move); rfl; rfl; (with_reducible apply Tri.op); rfl; (with_reducible apply o_move); rfl; rfl; (with_reducible apply Tri.op); rfl; (with_reducible apply o_mul64); rfl; rfl; rfl; (omega); (with_reducible apply Tri.op); rfl; (with_reducible apply o_shr); rfl; rfl; rfl; (omega); (with_reducible apply Tri.op); rfl; (with_reducible apply o_conv8); rfl; rfl; (with_reducible apply Tri.op); rfl)
    ((with_reducible apply Tri.seti 19 (((UInt8.ofNat (n / 2 ^ (8 * j))).toNat : Int))); (case h => rfl); (case hi => (rw [show ((j + 1 : Nat) : Int) - 1 = (j : Int) by omega]; exact byte_shr n j (by omega))))
    ((with_reducible apply o_litSl (ys := [.int .u8 ((UInt8.ofNat (n / 2 ^ (8 * j))).toNat : Int)])); (case hp => (repeat first | exact pev.nil | (apply pev.cons; case a => rfl))); (case hm => rfl); (case hf => rfl); (case hn => rfl); intro vl)
    ((with_reducible apply Tri.op); rfl)
    ((with_reducible apply o_append); (case hx => rfl); (case hy => rfl); (case p => (repeat first | with_reducible exact Pull.head | apply Pull.tail)); (case hr => exact rdw_own (by (repeat first | with_reducible exact Pull.head | apply Pull.tail))); (case hl => rfl); (case h1 => (intro y hy; simp at hy; subst hy; rfl)); (case hb => omega); (case hn => rfl))
    intro u'
    ((with_reducible apply Tri.op); rfl; (with_reducible apply o_assign); rfl; rfl; (with_reducible refine Tri.nil (Tri.blockN (Tri.thenN (Tri.region ?_)))); (with_reducible apply Tri.op); rfl; (with_reducible apply o_move); rfl; rfl; (with_reducible apply Tri.op); rfl; (with_reducible apply o_sub64); rfl; rfl; rfl; (omega); (with_reducible apply Tri.op); rfl; (with_reducible apply o_assign); rfl; rfl; (with_reducible refine Tri.nil (Tri.thenN ?_)))
    ((with_reducible apply Tri.eqA (A := own 5 1 u' _ _) (B := own 5 1 u' (c ++ [UInt8.ofNat (n / 2 ^ (8 * j))]).length (B8 (c ++ [UInt8.ofNat (n / 2 ^ (8 * j))])))); (case p => (repeat first | with_reducible exact Pull.head | apply Pull.tail)); (case e => (rw [B8_append, List.length_append]; rfl)))
    ((with_reducible apply Tri.seti 7 (((j : Int) - 1))); (case h => rfl); (case hi => omega))
    ((with_reducible apply Tri.again (y := ⟨j, c ++ [UInt8.ofNat (n / 2 ^ (8 * j))], u', by omega, by rw [← hc, bigB]; simp⟩)); (case p => ((try dsimp only); (repeat first | exact Pulls.nil | (apply Pulls.cons; repeat first | with_reducible exact Pull.head | apply Pull.tail)))); (case hm => ((try dsimp only); omega)); (try dsimp only))
    (repeat (first | exact trivial | refine And.intro (by rfl) ?_))
  · obtain rfl : k = 0 := by omega
    have hce : c = l ++ bigB n size := by rw [← hc]; simp [bigB]
    ((with_reducible refine Tri.exit (Tri.thenE (Tri.thenE (Tri.blockE (Tri.thenN (Tri.seq (Tri.region ?_))))))); (with_reducible apply Tri.op); rfl; (with_reducible apply o_move); rfl; rfl; (with_reducible apply Tri.op); rfl; (with_reducible apply o_assign); rfl; rfl; (with_reducible refine Tri.nil (Tri.thenN (Tri.ret ?_))))
    ((with_reducible apply Tri.eqA (A := own 5 1 u _ _) (B := own 5 1 u (l ++ bigB n size).length (B8 (l ++ bigB n size)))); (case p => (repeat first | with_reducible exact Pull.head | apply Pull.tail)); (case e => (rw [hce])))
    ((first | with_reducible apply Tri.fin | with_reducible apply Tri.finN); (case hr => rfl); (case h => (repeat (first | exact ResL.nil | (apply ResL.cons; (case a => (first | exact Res1.tmp rfl | (apply Res1.cell; rfl; (repeat first | with_reducible exact Pull.head | apply Pull.tail); rfl) | (apply Res1.agg; rfl; (repeat first | with_reducible exact Pull.head | apply Pull.tail); rfl; rfl))))))); (apply fin_R (Hn := [own 5 1 u (l ++ bigB n size).length (B8 (l ++ bigB n size))])); (case p => (repeat first | exact Pulls.nil | (apply Pulls.cons; repeat first | with_reducible exact Pull.head | apply Pull.tail))))
    rfl

theorem or8_64 (m : Nat) (y : UInt8) (hm : m * 256 + 256 ≤ 18446744073709551616) : Go.bits .or .u64 (IntKind.u64.wrap ((m : Int) * 2 ^ min (Int.toNat 8) IntKind.u64.bits)) (y.toNat : Int) = ((m * 256 + y.toNat : Nat) : Int) := by
  have hy := y.toNat_lt
  have e1 : IntKind.u64.wrap ((m : Int) * 2 ^ min (Int.toNat 8) IntKind.u64.bits) = ((m * 256 : Nat) : Int) := by
    rw [show (2 : Int) ^ min (Int.toNat 8) IntKind.u64.bits = 256 from rfl, wrap_u64 (by omega)]; omega
  rw [e1]
  have e2 : ((BitVec.ofInt 64 ((m * 256 : Nat) : Int) ||| BitVec.ofInt 64 ((y.toNat : Nat) : Int)).toNat) = m * 256 + y.toNat := by
    rw [ofInt_nat, ofInt_nat, BitVec.toNat_or, BitVec.toNat_ofNat, BitVec.toNat_ofNat, Nat.mod_eq_of_lt (by omega), Nat.mod_eq_of_lt (by omega)]
    have := Nat.shiftLeft_add_eq_or_of_lt (i := 8) (b := y.toNat) hy m
    rw [Nat.shiftLeft_eq] at this
    exact this.symm
  show IntKind.u64.wrap (((BitVec.ofInt 64 ((m * 256 : Nat) : Int) ||| BitVec.ofInt 64 ((y.toNat : Nat) : Int)).toNat : Nat) : Int) = _
  rw [e2, wrap_u64 (by omega)]
theorem numB_take (l : List UInt8) (k : Nat) (hk : k < l.length) : numB (l.take (k + 1)) = numB (l.take k) * 256 + (l[k]'hk).toNat := by
  rw [List.take_succ_eq_append_getElem hk, numB_snoc]
set_option maxHeartbeats 1000000 in
theorem page_number (v : Value) (l : List UInt8) (hl : l.length ≤ 8) : SpecR Try.prog 141 #[v] (fun w => RdW w v l.length (B8 l)) (fun r H' => r = .int .u64 (numB l : Int) ∧ H' = []) := by
  refine SpecR.of (fun w hr => ?_)
  refine Calls.enter Try.func141 rfl rfl rfl (St.rebase w) ?_
  simp only [argSlots]
  ((with_reducible refine Tri.seq (Tri.region ?_)); (with_reducible apply Tri.op); rfl; (with_reducible apply o_assign); rfl; rfl; (with_reducible refine Tri.nil (Tri.thenN (Tri.seq (Tri.region ?_)))); (with_reducible apply Tri.op); rfl; (with_reducible apply o_assign); rfl; rfl; (with_reducible refine Tri.nil (Tri.thenN (Tri.seq (Tri.seq (Tri.region ?_))))); (with_reducible apply Tri.op); rfl; (with_reducible apply o_move); rfl; rfl; (with_reducible apply Tri.op); rfl)
  ((with_reducible apply o_lenRd (hr := hr)); (case hx => rfl); (case hn => rfl))
  ((with_reducible apply Tri.op); rfl; (with_reducible apply o_move); rfl; rfl; (with_reducible refine Tri.nil (Tri.thenN (Tri.block ?_))))
  ((first | with_reducible apply Tri.loop (α := { k : Nat // k ≤ l.length }) (m := fun x => l.length - x.1) (Lx := fun x => [(3, .int .u64 (numB (l.take x.1) : Int)), (6, v), (7, .int .i64 (l.length : Int)), (8, .int .i64 (x.1 : Int))]) (Hx := fun x => [Ex (hp w)]) (x0 := ⟨0, Nat.zero_le _⟩) | with_reducible apply TriR.loop (α := { k : Nat // k ≤ l.length }) (m := fun x => l.length - x.1) (Lx := fun x => [(3, .int .u64 (numB (l.take x.1) : Int)), (6, v), (7, .int .i64 (l.length : Int)), (8, .int .i64 (x.1 : Int))]) (Hx := fun x => [Ex (hp w)]) (x0 := ⟨0, Nat.zero_le _⟩)); (case hL => ((try dsimp only); (repeat (first | exact trivial | refine And.intro (by rfl) ?_)))); (case hH => ((try dsimp only); apply St.all; (repeat first | exact Pulls.nil | (apply Pulls.cons; repeat first | with_reducible exact Pull.head | apply Pull.tail))))); (rintro ⟨k, hk⟩ mx hmx; (try dsimp only at hmx ⊢))
  ((with_reducible refine Tri.seq (Tri.region ?_)); (with_reducible apply Tri.op); rfl; (with_reducible apply o_lss); rfl; rfl; rfl; (with_reducible refine Tri.nil (Tri.thenN (Tri.seq ?_))))
  ((first | with_reducible apply Tri.condD | with_reducible apply TriR.condD); (case hc => rfl); (all_goals intro h))
  · have hk' : k < l.length := by omega
    have hb := numB_lt (l.take k)
    have hb2 : numB (l.take k) < 256 ^ 7 := Nat.lt_of_lt_of_le hb (Nat.pow_le_pow_right (by omega) (by rw [List.length_take]; omega))
    ((with_reducible refine Tri.skip (Tri.thenN (Tri.seq (Tri.block (Tri.seq (Tri.region ?_)))))); (with_reducible apply Tri.op); rfl)
    ((with_reducible apply o_ixRd (hr := hr) (j := k)); (case hx => rfl); (case hy => rfl); (case hj => rfl); (case hlt => exact hk'); (case hl => (rw [B8_length]; omega)); (case hn => rfl))
    ((with_reducible apply Tri.op); rfl)
    ((with_reducible apply o_loadRd (hr := hr)); (case hx => rfl); (case p => (repeat first | with_reducible exact Pull.head | apply Pull.tail)); (case hv => exact (by rw [Nat.mul_one]; exact B8_get l k hk')); (case hn => rfl))
    ((with_reducible apply Tri.op); rfl; (with_reducible apply o_assign); rfl; rfl; (with_reducible refine Tri.nil (Tri.thenN (Tri.region ?_))); (with_reducible apply Tri.op); rfl; (with_reducible apply o_move); rfl; rfl; (with_reducible apply Tri.op); rfl; (with_reducible apply o_shl); rfl; rfl; rfl; (omega); (with_reducible apply Tri.op); rfl; (with_reducible apply o_move); rfl; rfl; (with_reducible apply Tri.op); rfl; (with_reducible apply o_conv64); rfl; rfl; (with_reducible apply Tri.op); rfl; (with_reducible apply o_or); rfl; rfl; rfl; (with_reducible apply Tri.op); rfl; (with_reducible apply o_assign); rfl; rfl; (with_reducible refine Tri.nil (Tri.blockN (Tri.thenN (Tri.region ?_)))); (with_reducible apply Tri.op); rfl; (with_reducible apply o_add64); rfl; rfl; rfl; (omega); (with_reducible apply Tri.op); rfl; (with_reducible apply o_move); rfl; rfl; (with_reducible refine Tri.nil (Tri.thenN ?_)))
    have hy : (((l[k]'hk').toNat : Nat) : Int) % 18446744073709551616 = ((l[k]'hk').toNat : Int) := by have := (l[k]'hk').toNat_lt; omega
    have hor := or8_64 (numB (l.take k)) (l[k]'hk') (by omega)
    ((with_reducible apply Tri.seti 3 ((numB (l.take (k + 1)) : Int))); (case h => rfl); (case hi => (rw [numB_take l k hk', hy]; exact hor)))
    ((with_reducible apply Tri.again (y := ⟨k + 1, by omega⟩)); (case p => ((try dsimp only); (repeat first | exact Pulls.nil | (apply Pulls.cons; repeat first | with_reducible exact Pull.head | apply Pull.tail)))); (case hm => ((try dsimp only); omega)); (try dsimp only))
    (repeat (first | exact trivial | refine And.intro (by rfl) ?_))
  · have hke : k = l.length := by omega
    ((with_reducible refine Tri.exit (Tri.thenE (Tri.thenE (Tri.blockE (Tri.thenN (Tri.seq (Tri.region ?_))))))); (with_reducible apply Tri.op); rfl; (with_reducible apply o_move); rfl; rfl; (with_reducible apply Tri.op); rfl; (with_reducible apply o_assign); rfl; rfl; (with_reducible refine Tri.nil (Tri.thenN (Tri.ret ?_))))
    ((first | with_reducible apply Tri.fin | with_reducible apply Tri.finN); (case hr => rfl); (case h => exact ResL.cons (Res1.tmp rfl) (ResL.nil)); (apply fin_R (Hn := [])); (case p => exact (by (repeat first | exact Pulls.nil | (apply Pulls.cons; repeat first | with_reducible exact Pull.head | apply Pull.tail)))); exact ⟨by simp only [tupled]; (rw [hke, List.take_length]), rfl⟩)

end Go.Proofs.Ytckdlfbbkemklaa
