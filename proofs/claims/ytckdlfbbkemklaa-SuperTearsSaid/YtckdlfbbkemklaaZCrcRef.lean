import Derived.Test.YtckdlfbbkemklaaZCrcWalk
/- The reference's sum. -/
namespace Go.Proofs.Ytckdlfbbkemklaa
open Go Go.RowKit Go.Gv
set_option linter.unusedVariables false

set_option maxHeartbeats 400000 in
theorem ref02_Sum (v : Value) (l : List UInt8) (hl8 : l.length ≤ 1000000000000000000) :
    SpecR Try.prog 97 #[v] (fun w => RdW w v l.length (B8 l)) (fun r H' => r = .int .u32 ((refSum l).toNat : Int) ∧ H' = []) := by
  refine SpecR.of (fun w hr => ?_)
  have hlen := hr.le
  refine Calls.enter Try.func97 rfl rfl rfl (St.rebase w) ?_
  simp only [argSlots]
  ((with_reducible refine Tri.seq (Tri.region ?_)); (with_reducible apply Tri.op); rfl; (with_reducible apply o_assign); rfl; rfl; (with_reducible refine Tri.nil (Tri.thenN (Tri.seq (Tri.region ?_)))); (with_reducible apply Tri.op); rfl; (with_reducible apply o_assign); rfl; rfl; (with_reducible refine Tri.nil (Tri.thenN (Tri.seq (Tri.seq (Tri.region ?_))))); (with_reducible apply Tri.op); rfl; (with_reducible apply o_assign); rfl; rfl; (with_reducible refine Tri.nil (Tri.thenN (Tri.block ?_))))
  ((with_reducible apply Tri.seti 3 (((refAt l 0).toNat : Int))); (case h => rfl); (case hi => rfl))
  ((first | with_reducible apply Tri.loop (α := { i : Nat // i ≤ 8 * l.length }) (m := fun x => 8 * l.length - x.1) (Lx := fun x => [(0, v), (3, .int .u32 ((refAt l x.1).toNat : Int)), (4, .int .i64 (x.1 : Int))]) (Hx := fun _ => [Ex (hp w)]) (x0 := ⟨0, Nat.zero_le _⟩) | with_reducible apply TriR.loop (α := { i : Nat // i ≤ 8 * l.length }) (m := fun x => 8 * l.length - x.1) (Lx := fun x => [(0, v), (3, .int .u32 ((refAt l x.1).toNat : Int)), (4, .int .i64 (x.1 : Int))]) (Hx := fun _ => [Ex (hp w)]) (x0 := ⟨0, Nat.zero_le _⟩)); (case hL => ((try dsimp only); (repeat (first | exact trivial | refine And.intro (by rfl) ?_)))); (case hH => ((try dsimp only); apply St.all; (repeat first | exact Pulls.nil | (apply Pulls.cons; repeat first | with_reducible exact Pull.head | apply Pull.tail))))); (rintro ⟨i, hi⟩ mx hmx; (try dsimp only at hmx ⊢))
  ((with_reducible refine Tri.seq (Tri.seq (Tri.region ?_))); (with_reducible apply Tri.op); rfl; (with_reducible apply o_move); rfl; rfl; (with_reducible apply Tri.op); rfl; (with_reducible apply o_move); rfl; rfl; (with_reducible apply Tri.op); rfl)
  ((with_reducible apply o_lenRd (hr := hr)); (case hx => rfl); (case hn => rfl))
  ((with_reducible apply Tri.op); rfl; (with_reducible apply o_mul64); rfl; rfl; rfl; (omega); (with_reducible apply Tri.op); rfl; (with_reducible apply o_lss); rfl; rfl; rfl; (with_reducible refine Tri.nil (Tri.thenN ?_)))
  ((first | with_reducible apply Tri.condD | with_reducible apply TriR.condD); (case hc => rfl); (all_goals intro h))
  · have hi' : i < 8 * l.length := by omega
    have hq : i / 8 < l.length := by omega
    ((with_reducible refine Tri.skip (Tri.thenN (Tri.seq (Tri.block (Tri.seq (Tri.region ?_)))))); (with_reducible apply Tri.op); rfl; (with_reducible apply o_move); rfl; rfl; (with_reducible apply Tri.op); rfl; (with_reducible apply o_move); rfl; rfl; (with_reducible apply Tri.op); rfl; (with_reducible apply o_quo); rfl; rfl; rfl; (omega); (omega); (with_reducible apply Tri.op); rfl)
    ((with_reducible apply o_ixRd (hr := hr) (j := i / 8)); (case hx => rfl); (case hy => rfl); (case hj => omega); (case hlt => exact hq); (case hl => (rw [B8_length]; omega)); (case hn => rfl))
    ((with_reducible apply Tri.op); rfl)
    ((with_reducible apply o_loadRd (hr := hr)); (case hx => rfl); (case p => (repeat first | with_reducible exact Pull.head | apply Pull.tail)); (case hv => exact (by rw [Nat.mul_one]; exact B8_get l (i / 8) hq)); (case hn => rfl))
    ((with_reducible apply Tri.op); rfl; (with_reducible apply o_conv32); rfl; rfl; (with_reducible apply Tri.op); rfl; (with_reducible apply o_move); rfl; rfl; (with_reducible apply Tri.op); rfl; (with_reducible apply o_rem); rfl; rfl; rfl; (omega); (omega); (with_reducible apply Tri.op); rfl; (with_reducible apply o_shr); rfl; rfl; rfl; (omega); (with_reducible apply Tri.op); rfl; (with_reducible apply o_and); rfl; rfl; rfl; (with_reducible apply Tri.op); rfl; (with_reducible apply o_assign); rfl; rfl; (with_reducible refine Tri.nil (Tri.thenN (Tri.seq (Tri.region ?_)))); (with_reducible apply Tri.op); rfl; (with_reducible apply o_move); rfl; rfl; (with_reducible apply Tri.op); rfl; (with_reducible apply o_and); rfl; rfl; rfl; (with_reducible apply Tri.op); rfl; (with_reducible apply o_move); rfl; rfl; (with_reducible apply Tri.op); rfl; (with_reducible apply o_neq); rfl; rfl; rfl; (with_reducible refine Tri.nil (Tri.thenN ?_)))
    have hbit : Go.bits .and .u32 ((l[i / 8].toNat : Int) % 4294967296 / 2 ^ min ((i : Int) % 8).toNat IntKind.u32.bits) 1 = ((bitAt l i).toNat : Int) := by
      have e1 : (l[i / 8].toNat : Int) % 4294967296 = (l[i / 8].toUInt32.toNat : Int) := by
        have := l[i / 8].toNat_lt
        rw [UInt8.toNat_toUInt32]; omega
      rw [e1, shr32 _ (i % 8) (by omega) _ (by omega)]
      refine (and32 _ 1).trans ?_
      unfold bitAt
      rw [List.getD_eq_getElem?_getD, List.getElem?_eq_getElem hq]; rfl
    ((with_reducible apply Tri.seti 5 (((bitAt l i).toNat : Int))); (case h => rfl); (case hi => exact hbit))
    have hn1 : Go.bits .and .u32 ((refAt l i).toNat : Int) 1 = ((refAt l i &&& 1).toNat : Int) := and32 _ 1
    ((with_reducible apply Tri.setb 26 ((decide ((refAt l i &&& 1) ≠ bitAt l i)))); (case h => rfl); (case hi => (congr 1; rw [hbit, hn1]; simp only [ne_eq, Int.natCast_inj, UInt32.toNat_inj])))
    ((first | with_reducible apply Tri.condD | with_reducible apply TriR.condD); (case hc => rfl); (all_goals intro hb))
    · ((with_reducible refine Tri.region ?_); (with_reducible apply Tri.op); rfl; (with_reducible apply o_move); rfl; rfl; (with_reducible apply Tri.op); rfl; (with_reducible apply o_shr); rfl; rfl; rfl; (omega); (with_reducible apply Tri.op); rfl; (with_reducible apply o_xor); rfl; rfl; rfl; (with_reducible apply Tri.op); rfl; (with_reducible apply o_assign); rfl; rfl; (with_reducible refine Tri.nil (Tri.blockN (Tri.thenN (Tri.region ?_)))); (with_reducible apply Tri.op); rfl; (with_reducible apply o_move); rfl; rfl; (with_reducible apply Tri.op); rfl; (with_reducible apply o_add64); rfl; rfl; rfl; (omega); (with_reducible apply Tri.op); rfl; (with_reducible apply o_assign); rfl; rfl; (with_reducible refine Tri.nil (Tri.thenN ?_)))
      ((with_reducible apply Tri.seti 3 (((refAt l (i + 1)).toNat : Int))); (case h => rfl); (case hi => (rw [refAt, refBit, if_pos hb, shr32 _ 1 (by omega) 1 rfl]; exact xor32 _ 0x82F63B78)))
      ((with_reducible apply Tri.again (y := ⟨i + 1, Nat.succ_le_of_lt hi'⟩)); (case p => ((try dsimp only); (repeat first | exact Pulls.nil | (apply Pulls.cons; repeat first | with_reducible exact Pull.head | apply Pull.tail)))); (case hm => ((try dsimp only); omega)); (try dsimp only))
      (repeat (first | exact trivial | refine And.intro (by rfl) ?_))
    · ((with_reducible refine Tri.region ?_); (with_reducible apply Tri.op); rfl; (with_reducible apply o_move); rfl; rfl; (with_reducible apply Tri.op); rfl; (with_reducible apply o_shr); rfl; rfl; rfl; (omega); (with_reducible apply Tri.op); rfl; (with_reducible apply o_assign); rfl; rfl; (with_reducible refine Tri.nil (Tri.blockN (Tri.thenN (Tri.region ?_)))); (with_reducible apply Tri.op); rfl; (with_reducible apply o_move); rfl; rfl; (with_reducible apply Tri.op); rfl; (with_reducible apply o_add64); rfl; rfl; rfl; (omega); (with_reducible apply Tri.op); rfl; (with_reducible apply o_assign); rfl; rfl; (with_reducible refine Tri.nil (Tri.thenN ?_)))
      ((with_reducible apply Tri.seti 3 (((refAt l (i + 1)).toNat : Int))); (case h => rfl); (case hi => (rw [refAt, refBit, if_neg hb, shr32 _ 1 (by omega) 1 rfl]; rfl)))
      ((with_reducible apply Tri.again (y := ⟨i + 1, Nat.succ_le_of_lt hi'⟩)); (case p => ((try dsimp only); (repeat first | exact Pulls.nil | (apply Pulls.cons; repeat first | with_reducible exact Pull.head | apply Pull.tail)))); (case hm => ((try dsimp only); omega)); (try dsimp only))
      (repeat (first | exact trivial | refine And.intro (by rfl) ?_))
  · ((with_reducible refine Tri.exit (Tri.thenE (Tri.thenE (Tri.blockE (Tri.thenN (Tri.seq (Tri.region ?_))))))); (with_reducible apply Tri.op); rfl; (with_reducible apply o_move); rfl; rfl; (with_reducible apply Tri.op); rfl; (with_reducible apply o_xor); rfl; rfl; rfl; (with_reducible apply Tri.op); rfl; (with_reducible apply o_assign); rfl; rfl; (with_reducible refine Tri.nil (Tri.thenN (Tri.ret ?_))))
    have e : i = 8 * l.length := by omega
    subst e
    ((first | with_reducible apply Tri.fin | with_reducible apply Tri.finN); (case hr => rfl); (case h => (repeat (first | exact ResL.nil | (apply ResL.cons; (case a => (first | exact Res1.tmp rfl | (apply Res1.cell; rfl; (repeat first | with_reducible exact Pull.head | apply Pull.tail); rfl) | (apply Res1.agg; rfl; (repeat first | with_reducible exact Pull.head | apply Pull.tail); rfl; rfl))))))); (apply fin_R (Hn := [])); (case p => (repeat first | exact Pulls.nil | (apply Pulls.cons; repeat first | with_reducible exact Pull.head | apply Pull.tail))))
    exact ⟨congrArg _ (xor32 _ 0xFFFFFFFF), rfl⟩
end Go.Proofs.Ytckdlfbbkemklaa
