import Derived.Test.YtckdlfbbkemklaaZB
import Derived.Test.YtckdlfbbkemklaaZGvTy
import Derived.Test.YtckdlfbbkemklaaZGvSeat
/- slices.Chunk of bytes, and the iterator that it hands back. -/
namespace Go.Proofs.Ytckdlfbbkemklaa
open Go Go.RowKit Go.Gv
set_option linter.unusedVariables false
set_option linter.unusedSimpArgs false

theorem slices_Chunk (A : Option Addr) (m c : Nat) : SpecR Try.prog 120 #[.slice A m c, .int .i64 64] (fun _ => True) (fun r H' => ∃ b2 b3 : Nat, r = .func (.func 138) #[] [.pointer (some ⟨b2, 0, none⟩), .pointer (some ⟨b3, 0, none⟩)].toArray ∧ H' = [blk b2 43 [.slice A m c], blk b3 3 [.int .i64 64]]) := by
  refine SpecR.of (fun w _ => ?_)
  refine Calls.enter Try.func120 rfl rfl rfl (St.rebase w) ?_
  simp only [argSlots]
  ((with_reducible refine Tri.seq (Tri.region ?_)); (with_reducible apply Tri.op); rfl)
  (first | ((with_reducible apply o_boxA); (case hx => rfl); (case hn => rfl); intro b2) | ((with_reducible apply o_box1); (case hx => rfl); (case h1 => rfl); (case hn => rfl); intro b2))
  ((with_reducible apply Tri.op); rfl)
  (first | ((with_reducible apply o_boxA); (case hx => rfl); (case hn => rfl); intro b3) | ((with_reducible apply o_box1); (case hx => rfl); (case h1 => rfl); (case hn => rfl); intro b3))
  ((with_reducible apply Tri.op); rfl; (with_reducible apply o_assign); rfl; rfl; (with_reducible refine Tri.nil (Tri.thenN (Tri.seq (Tri.seq (Tri.region ?_))))); (with_reducible apply Tri.op); rfl; (with_reducible apply o_load); rfl; (focus (first | ((repeat (first | with_reducible exact Pull.head | with_reducible apply Pull.tail)); done) | (repeat (first | exact Pull.head | apply Pull.tail)))); rfl; rfl; (with_reducible apply Tri.op); rfl; (with_reducible apply o_lss); rfl; rfl; rfl; (with_reducible refine Tri.nil (Tri.thenN ?_)))
  ((with_reducible apply Tri.setb 6 (false)); (case h => rfl); (case hi => rfl))
  ((with_reducible apply Tri.condF); rfl; rfl; (with_reducible refine Tri.skip (Tri.thenN (Tri.seq (Tri.region ?_)))); (with_reducible apply Tri.op); rfl)
  ((with_reducible apply o_makeFunc (vs := [.pointer (some ⟨b2, 0, none⟩), .pointer (some ⟨b3, 0, none⟩)])); (case hc => exact ⟨rfl, rfl, trivial⟩); (case hn => rfl))
  ((with_reducible apply Tri.op); rfl; (with_reducible apply o_assign); rfl; rfl; (with_reducible refine Tri.nil (Tri.thenN (Tri.ret ?_))))
  ((first | with_reducible apply Tri.fin | with_reducible apply Tri.finN); (case hr => rfl); (case h => (repeat (first | exact ResL.nil | (apply ResL.cons; (case a => (first | exact Res1.tmp rfl | (apply Res1.cell; rfl; (first | ((repeat (first | with_reducible exact Pull.head | with_reducible apply Pull.tail)); done) | (repeat (first | exact Pull.head | apply Pull.tail))); rfl) | (apply Res1.agg; rfl; (first | ((repeat (first | with_reducible exact Pull.head | with_reducible apply Pull.tail)); done) | (repeat (first | exact Pull.head | apply Pull.tail))); rfl; rfl))))))); (apply fin_R (Hn := [blk b2 43 [.slice A m c], blk b3 3 [.int .i64 64]])); (case p => (repeat (first | exact Pulls.nil | (apply Pulls.cons; (case a => (first | ((repeat (first | with_reducible exact Gv.Pull.head | with_reducible apply Gv.Pull.tail)); done) | (repeat (first | exact Gv.Pull.head | apply Gv.Pull.tail)))))))))
  exact ⟨b2, b3, rfl, rfl⟩

def chunks (A : Option Addr) (m : Nat) : List (List Value) := (List.range (m / 64)).map fun k => [.slice (A.map (·.add (k * 64))) 64 64]
theorem chunks_get {A : Option Addr} {m k : Nat} (h : k * 64 + 64 ≤ m) : (chunks A m)[k]? = some [.slice (A.map (·.add (k * 64))) 64 64] := by
  unfold chunks
  rw [List.getElem?_map, List.getElem?_range (by omega)]; rfl
theorem chunks_of {A : Option Addr} {m k : Nat} {vs : List Value} (hm : m % 64 = 0) (h : (chunks A m)[k]? = some vs) : k * 64 + 64 ≤ m ∧ vs = [.slice (A.map (·.add (k * 64))) 64 64] := by
  have hk : k < m / 64 := by
    have := (List.getElem?_eq_some_iff.1 h).1
    simpa [chunks] using this
  have h2 : k * 64 + 64 ≤ m := by omega
  rw [chunks_get h2] at h
  exact ⟨h2, (Option.some.inj h).symm⟩
theorem add_nought (A : Option Addr) : A.map (·.add (0 * 64)) = A := by
  cases A with
  | none => rfl
  | some a => simp [Addr.add]
set_option maxHeartbeats 4000000 in
theorem chunk_iter (A : Option Addr) (m c b2 b3 : Nat) (hm : m % 64 = 0) (hc : m ≤ c ∧ m ≤ 1000000000) : Iter Try.prog 138 [.pointer (some ⟨b2, 0, none⟩), .pointer (some ⟨b3, 0, none⟩)] [blk b2 43 [.slice A m c], blk b3 3 [.int .i64 64]] (chunks A m) := by
  refine Iter.of (fun w0 l I J hY w h0 hw => ?_)
  have hxl : (chunks A m).length = m / 64 := by simp [chunks]
  rw [hxl]
  refine Calls.enter Try.func138 rfl rfl rfl hw ?_
  simp only [argSlots]
  refine Tri.wr ?_
  (try dsimp only [List.cons_append, List.nil_append])
  ((with_reducible refine TriR.seq (TriR.region ?_)); (with_reducible apply TriR.op); rfl; rfl; (with_reducible apply o_assign); rfl; rfl; (with_reducible refine TriR.nil (Tri.thenN (TriR.block ?_))))
  ((first | with_reducible apply Tri.loop (α := { k : Nat // k ≤ m / 64 }) (m := fun x => m / 64 - x.1) (Lx := fun x => [(0, .func (.yield l) #[] #[]), (1, .pointer (some ⟨b2, 0, none⟩)), (2, .pointer (some ⟨b3, 0, none⟩)), (4, .int .i64 ((x.1 * 64 : Nat) : Int))]) (Hx := fun x => [I x.1, blk b2 43 [.slice A m c], blk b3 3 [.int .i64 64], Ex h0]) (x0 := ⟨0, Nat.zero_le _⟩) | with_reducible apply TriR.loop (α := { k : Nat // k ≤ m / 64 }) (m := fun x => m / 64 - x.1) (Lx := fun x => [(0, .func (.yield l) #[] #[]), (1, .pointer (some ⟨b2, 0, none⟩)), (2, .pointer (some ⟨b3, 0, none⟩)), (4, .int .i64 ((x.1 * 64 : Nat) : Int))]) (Hx := fun x => [I x.1, blk b2 43 [.slice A m c], blk b3 3 [.int .i64 64], Ex h0]) (x0 := ⟨0, Nat.zero_le _⟩)); (case hL => ((try dsimp only); (repeat (first | exact trivial | refine And.intro (by rfl) ?_)))); (case hH => ((try dsimp only); apply St.all; (repeat (first | exact Pulls.nil | (apply Pulls.cons; (case a => (first | ((repeat (first | with_reducible exact Gv.Pull.head | with_reducible apply Gv.Pull.tail)); done) | (repeat (first | exact Gv.Pull.head | apply Gv.Pull.tail)))))))))); (rintro ⟨k, hk⟩ mx hmx; (try dsimp only at hmx ⊢))
  ((with_reducible refine TriR.seq (TriR.seq (TriR.region ?_))); (with_reducible apply TriR.op); rfl; rfl; (with_reducible apply o_move); rfl; rfl; (with_reducible apply TriR.op); rfl; rfl; (with_reducible apply o_load); rfl; (focus (first | ((repeat (first | with_reducible exact Pull.head | with_reducible apply Pull.tail)); done) | (repeat (first | exact Pull.head | apply Pull.tail)))); rfl; rfl; (with_reducible apply TriR.op); rfl; rfl; (with_reducible apply o_len); rfl; rfl; (with_reducible apply TriR.op); rfl; rfl; (with_reducible apply o_lss); rfl; rfl; rfl; (with_reducible refine TriR.nil (Tri.thenN ?_)))
  ((first | with_reducible apply Tri.condD | with_reducible apply TriR.condD); (case hc => rfl); (all_goals intro h))
  · have hk' : k * 64 + 64 ≤ m := by omega
    ((with_reducible refine TriR.skip (Tri.thenN (TriR.seq (TriR.block (TriR.seq ?_))))))
    ((first | with_reducible apply Tri.mix [blk b2 43 [.slice A m c], blk b3 3 [.int .i64 64]] | ((with_reducible apply TriR.mix [blk b2 43 [.slice A m c], blk b3 3 [.int .i64 64]]); (case hnd => rfl))); (case p => (repeat (first | exact Pulls.nil | (apply Pulls.cons; (case a => (first | ((repeat (first | with_reducible exact Gv.Pull.head | with_reducible apply Gv.Pull.tail)); done) | (repeat (first | exact Gv.Pull.head | apply Gv.Pull.tail)))))))); (dsimp only [List.length]))
    ((first | ((with_reducible apply TriM.q 0); rfl; rfl) | ((with_reducible apply TriM.qYes 0); rfl; rfl; rfl; with_reducible rfl)); kernel_rfl; rfl; rfl; (intro F K hK; (with_reducible apply o_load); rfl; (focus (first | ((repeat (first | with_reducible exact Pull.head | with_reducible apply Pull.tail)); done) | (repeat (first | exact Pull.head | apply Pull.tail)))); rfl; rfl; exact hK); (first | ((with_reducible apply TriM.q 1); rfl; rfl) | ((with_reducible apply TriM.qYes 1); rfl; rfl; rfl; with_reducible rfl)); kernel_rfl; rfl; rfl; (intro F K hK; (with_reducible apply o_load); rfl; (focus (first | ((repeat (first | with_reducible exact Pull.head | with_reducible apply Pull.tail)); done) | (repeat (first | exact Pull.head | apply Pull.tail)))); rfl; rfl; exact hK); (first | ((with_reducible apply TriM.q 2); rfl; rfl) | ((with_reducible apply TriM.qYes 2); rfl; rfl; rfl; with_reducible rfl)); kernel_rfl; rfl; rfl; (intro F K hK; (with_reducible apply o_move); rfl; rfl; exact hK))
    ((first | ((with_reducible apply TriM.q 3); (case ho => rfl); (case hg => rfl)) | ((with_reducible apply TriM.qYes 3); (case ho => rfl); (case hg => rfl); (case hyl => rfl); (case hb => with_reducible rfl))); (case hB => kernel_rfl); (case hd => rfl); (case hn => rfl); (case h => (intro F K hK; ((with_reducible apply o_sliceH (lo := k * 64) (hi := m)); (case hx => rfl); (case hol => first | exact fun _ _ => rfl | exact fun a ha => congrArg some (ha.eval rfl)); (case hoh => first | exact fun _ _ => rfl | exact fun a ha => congrArg some (ha.eval rfl)); (case hlo => first | exact .inr ⟨rfl, rfl⟩ | exact .inl ⟨_, rfl⟩ | exact .inl ⟨_, (by congr 2; omega)⟩); (case hhi => first | exact .inr ⟨rfl, rfl⟩ | exact .inl ⟨_, rfl⟩ | exact .inl ⟨_, (by congr 2; omega)⟩); (case hlh => omega); (case hhm => omega); (case hn => rfl)); exact hK)))
    ((first | ((with_reducible apply TriM.q 4); rfl; rfl) | ((with_reducible apply TriM.qYes 4); rfl; rfl; rfl; with_reducible rfl)); kernel_rfl; rfl; rfl; (intro F K hK; (with_reducible apply o_len); rfl; rfl; exact hK); (first | ((with_reducible apply TriM.q 5); rfl; rfl) | ((with_reducible apply TriM.qYes 5); rfl; rfl; rfl; with_reducible rfl)); kernel_rfl; rfl; rfl; (intro F K hK; (with_reducible apply o_min); rfl; rfl; rfl; exact hK); (first | ((with_reducible apply TriM.q 6); rfl; rfl) | ((with_reducible apply TriM.qYes 6); rfl; rfl; rfl; with_reducible rfl)); kernel_rfl; rfl; rfl; (intro F K hK; (with_reducible apply o_assign); rfl; rfl; exact hK))
    ((with_reducible apply TriM.nil); (case hr => kernel_rfl); (try dsimp only [List.cons_append, List.nil_append]))
    ((with_reducible apply Tri.seti 5 (64)); (case h => rfl); (case hi => omega))
    ((with_reducible refine Tri.thenN (TriR.seq (TriR.region ?_))); (with_reducible apply TriR.op); rfl; rfl; (with_reducible apply o_move); rfl; rfl; (with_reducible apply TriR.op); rfl; rfl; (with_reducible apply o_load); rfl; (focus (first | ((repeat (first | with_reducible exact Pull.head | with_reducible apply Pull.tail)); done) | (repeat (first | exact Pull.head | apply Pull.tail)))); rfl; rfl; (with_reducible apply TriR.op); rfl; rfl; (with_reducible apply o_move); rfl; rfl; (with_reducible apply TriR.op); rfl; rfl; (with_reducible apply o_move); rfl; rfl; (with_reducible apply TriR.op); rfl; rfl; (with_reducible apply o_move); rfl; rfl; (with_reducible apply TriR.op); rfl; rfl; (with_reducible apply o_add64); rfl; rfl; rfl; (omega); (with_reducible apply TriR.op); rfl; rfl; (with_reducible apply o_move); rfl; rfl; (with_reducible apply TriR.op); rfl; rfl; (with_reducible apply o_move); rfl; rfl; (with_reducible apply TriR.op); rfl; rfl; (with_reducible apply o_add64); rfl; rfl; rfl; (omega); (with_reducible apply TriR.op); rfl; rfl)
    ((with_reducible apply Tri.seti 24 (((k * 64 + 64 : Nat) : Int))); (case h => rfl); (case hi => omega))
    ((with_reducible apply Tri.seti 27 (((k * 64 + 64 : Nat) : Int))); (case h => rfl); (case hi => omega))
    ((with_reducible apply o_slice3 (lo := k * 64) (hi := k * 64 + 64) (mx := k * 64 + 64)); (case hx => rfl); (case hol => first | exact fun _ _ => rfl | exact fun a ha => congrArg some (ha.eval rfl)); (case hlo => first | exact .inr ⟨rfl, rfl⟩ | exact .inl ⟨_, rfl⟩ | exact .inl ⟨_, (by congr 2; omega)⟩); (case hy => rfl); (case hz => rfl); (case hlh => omega); (case hhm => omega); (case hmc => omega); (case hn => rfl))
    ((with_reducible apply Tri.setv 28 ((.slice (A.map (·.add (k * 64))) 64 64))); (case h => rfl); (case hv => (rw [if_neg (by omega), show k * 64 + 64 - k * 64 = 64 by omega, Nat.mul_one])))
    skip
    ((with_reducible apply TriR.yield (hy := hY k _ (chunks_get hk'))); (case hx => rfl); (case hargs => (repeat first | exact evs.nil | (apply evs.cons; case a => rfl))); (case hn => rfl); (case p => (first | ((repeat (first | with_reducible exact Pull.head | with_reducible apply Pull.tail)); done) | (repeat (first | exact Pull.head | apply Pull.tail)))))
    · ((with_reducible apply TriR.op); rfl; rfl; (with_reducible apply o_not); rfl; rfl; (with_reducible refine TriR.nil (Tri.thenN ?_)))
      ((with_reducible apply Tri.setb 30 (false)); (case h => rfl); (case hi => rfl))
      ((with_reducible apply TriR.condF); rfl; rfl; (with_reducible refine TriR.skip (Tri.blockN (Tri.thenN (TriR.region ?_)))); (with_reducible apply TriR.op); rfl; rfl; (with_reducible apply o_move); rfl; rfl; (with_reducible apply TriR.op); rfl; rfl; (with_reducible apply o_load); rfl; (focus (first | ((repeat (first | with_reducible exact Pull.head | with_reducible apply Pull.tail)); done) | (repeat (first | exact Pull.head | apply Pull.tail)))); rfl; rfl; (with_reducible apply TriR.op); rfl; rfl; (with_reducible apply o_add64); rfl; rfl; rfl; (omega); (with_reducible apply TriR.op); rfl; rfl; (with_reducible apply o_assign); rfl; rfl; (with_reducible refine TriR.nil (Tri.thenN ?_)))
      ((with_reducible apply Tri.seti 4 ((((k + 1) * 64 : Nat) : Int))); (case h => rfl); (case hi => omega))
      ((with_reducible apply Tri.again (y := ⟨k + 1, by omega⟩)); (case p => ((try dsimp only); (repeat (first | exact Pulls.nil | (apply Pulls.cons; (case a => (first | ((repeat (first | with_reducible exact Gv.Pull.head | with_reducible apply Gv.Pull.tail)); done) | (repeat (first | exact Gv.Pull.head | apply Gv.Pull.tail))))))))); (case hm => ((try dsimp only); omega)); (try dsimp only))
      (repeat (first | exact trivial | refine And.intro (by rfl) ?_))
    · ((with_reducible apply TriR.op); rfl; rfl; (with_reducible apply o_not); rfl; rfl; (with_reducible refine TriR.nil (Tri.thenN ?_)))
      ((with_reducible apply Tri.setb 30 (true)); (case h => rfl); (case hi => rfl))
      ((with_reducible apply TriR.condT); rfl; rfl; (with_reducible refine TriR.ret (Tri.blockR (Tri.thenR (Tri.thenR (Tri.blockR ?_))))))
      (first | with_reducible apply Tri.fin | with_reducible apply Tri.finN)
      case hr => rfl
      case h => exact ResL.nil
      exact fun w' hw' => .inr ⟨(hw'.pulls (As := [J, blk b2 43 [.slice A m c], blk b3 3 [.int .i64 64], Ex h0]) (by (repeat (first | exact Pulls.nil | (apply Pulls.cons; (case a => (first | ((repeat (first | with_reducible exact Gv.Pull.head | with_reducible apply Gv.Pull.tail)); done) | (repeat (first | exact Gv.Pull.head | apply Gv.Pull.tail))))))))).1, Sat.left (hw'.pulls (by (repeat (first | exact Pulls.nil | (apply Pulls.cons; (case a => (first | ((repeat (first | with_reducible exact Gv.Pull.head | with_reducible apply Gv.Pull.tail)); done) | (repeat (first | exact Gv.Pull.head | apply Gv.Pull.tail))))))))).2⟩
  · obtain rfl : k = m / 64 := by omega
    ((with_reducible refine TriR.exit (Tri.thenE (Tri.thenE (Tri.blockE ?_)))))
    (first | with_reducible apply Tri.fin | with_reducible apply Tri.finN)
    case hr => rfl
    case h => exact ResL.nil
    exact fun w' hw' => .inl ⟨(hw'.pulls (As := [I (m / 64), blk b2 43 [.slice A m c], blk b3 3 [.int .i64 64], Ex h0]) (by (repeat (first | exact Pulls.nil | (apply Pulls.cons; (case a => (first | ((repeat (first | with_reducible exact Gv.Pull.head | with_reducible apply Gv.Pull.tail)); done) | (repeat (first | exact Gv.Pull.head | apply Gv.Pull.tail))))))))).1, Sat.left (hw'.pulls (by (repeat (first | exact Pulls.nil | (apply Pulls.cons; (case a => (first | ((repeat (first | with_reducible exact Gv.Pull.head | with_reducible apply Gv.Pull.tail)); done) | (repeat (first | exact Gv.Pull.head | apply Gv.Pull.tail))))))))).2⟩
end Go.Proofs.Ytckdlfbbkemklaa
