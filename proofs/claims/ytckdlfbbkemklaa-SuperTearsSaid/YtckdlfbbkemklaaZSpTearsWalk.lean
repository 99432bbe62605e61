import Derived.Test.YtckdlfbbkemklaaZSpTearPlain
import Derived.Test.YtckdlfbbkemklaaZSpTurnsWalk
import Derived.Test.YtckdlfbbkemklaaZSpPutsWalk
import Derived.Test.YtckdlfbbkemklaaZPgWalk5
import Derived.Test.YtckdlfbbkemklaaZGvArr
/- super: of two generations, however the writing of the second one is torn, the first one counts, or the second one: the walk. -/
namespace Go.Proofs.Ytckdlfbbkemklaa
open Go Go.RowKit Go.Gv
set_option linter.unusedVariables false
set_option linter.unusedSimpArgs false

def allB (F : List (Bool × UInt8)) : Bool := F.all fun f => f.1 && decide ((f.2.toNat : Int) = 255)
def noB (F : List (Bool × UInt8)) : Bool := F.all fun f => !f.1 || decide ((f.2.toNat : Int) = 0)
theorem allB_snoc (F : List (Bool × UInt8)) (c : Bool) (k : UInt8) : allB (F ++ [(c, k)]) = (allB F && (c && decide ((k.toNat : Int) = 255))) := by simp [allB]
theorem noB_snoc (F : List (Bool × UInt8)) (c : Bool) (k : UInt8) : noB (F ++ [(c, k)]) = (noB F && (!c || decide ((k.toNat : Int) = 0))) := by simp [noB]
theorem allB_all {F : List (Bool × UInt8)} (h : allB F = true) : ∀ f ∈ F, f = (true, 255) := by
  intro f hf
  have := List.all_eq_true.1 h f hf
  simp only [Bool.and_eq_true, decide_eq_true_eq] at this
  obtain ⟨f1, f2⟩ := f
  simp only at this
  rw [this.1, UInt8.toNat_inj.1 (show f2.toNat = (255 : UInt8).toNat by have := this.2; show f2.toNat = 255; omega)]
theorem noB_all {F : List (Bool × UInt8)} (h : noB F = true) : ∀ f ∈ F, f.1 = false ∨ f.2 = 0 := by
  intro f hf
  have := List.all_eq_true.1 h f hf
  simp only [Bool.or_eq_true, decide_eq_true_eq, Bool.not_eq_true'] at this
  rcases this with q | q
  · exact .inl q
  · exact .inr (UInt8.toNat_inj.1 (show f.2.toNat = (0 : UInt8).toNat by show f.2.toNat = 0; omega))
theorem FL_append (F G : List (Bool × UInt8)) : FL (F ++ G) = FL F ++ FL G := by simp [FL]
set_option maxRecDepth 4000 in
set_option maxHeartbeats 16000000 in
theorem superTears_walk (w : World) (a0 b0 : SP) (hga0 : a0.gen < 18446744073709551616) (hgb0 : b0.gen < 18446744073709551616) (k0 k1 k2 k3 k4 k5 k6 k7 : UInt8) :
    Calls Try.prog 6 #[spV a0, spV b0, .agg [Value.int .u8 (k0.toNat : Int), .int .u8 (k1.toNat : Int), .int .u8 (k2.toNat : Int), .int .u8 (k3.toNat : Int), .int .u8 (k4.toNat : Int), .int .u8 (k5.toNat : Int), .int .u8 (k6.toNat : Int), .int .u8 (k7.toNat : Int)].toArray] w (Ret (LawR w)) := by
  refine Calls.enter Try.func6 rfl rfl rfl (St.rebase w) ?_
  simp only [argSlots]
  ((with_reducible refine Tri.seq (Tri.region ?_)); (with_reducible apply Tri.op); rfl)
  (first | ((with_reducible apply o_boxA); (case hx => rfl); (case hn => rfl); intro b3) | ((with_reducible apply o_box1); (case hx => rfl); (case h1 => rfl); (case hn => rfl); intro b3))
  ((with_reducible apply Tri.op); rfl)
  (first | ((with_reducible apply o_boxA); (case hx => rfl); (case hn => rfl); intro b4) | ((with_reducible apply o_box1); (case hx => rfl); (case h1 => rfl); (case hn => rfl); intro b4))
  ((with_reducible apply Tri.op); rfl)
  (first | ((with_reducible apply o_boxA); (case hx => rfl); (case hn => rfl); intro b5) | ((with_reducible apply o_box1); (case hx => rfl); (case h1 => rfl); (case hn => rfl); intro b5))
  ((with_reducible apply Tri.op); rfl; (with_reducible apply o_assign); rfl; rfl; (with_reducible refine Tri.nil (Tri.thenN ?_)))
  obtain ⟨c0, hc0⟩ : ∃ c, c = decide (Go.bits .and .u8 (k0.toNat : Int) 1 = 1) := ⟨_, rfl⟩
  obtain ⟨c1, hc1⟩ : ∃ c, c = decide (Go.bits .and .u8 (k1.toNat : Int) 1 = 1) := ⟨_, rfl⟩
  obtain ⟨c2, hc2⟩ : ∃ c, c = decide (Go.bits .and .u8 (k2.toNat : Int) 1 = 1) := ⟨_, rfl⟩
  obtain ⟨c3, hc3⟩ : ∃ c, c = decide (Go.bits .and .u8 (k3.toNat : Int) 1 = 1) := ⟨_, rfl⟩
  ((first | with_reducible apply Tri.seqMeet (α := Nat × Nat) (Lx := fun x => [(6, .bool false), (4, .pointer (some ⟨b4, 0, none⟩)), (3, .pointer (some ⟨b3, 0, none⟩)), (7, .pointer (some ⟨x.1, 0, none⟩)), (8, .pointer (some ⟨x.2, 0, none⟩))]) (Hx := fun x => [blk x.1 73 [Value.bool c0, .bool c1, .bool c2, .bool c3], blk x.2 71 [Value.int .u8 (k4.toNat : Int), .int .u8 (k5.toNat : Int), .int .u8 (k6.toNat : Int), .int .u8 (k7.toNat : Int)], blk b4 42 (spL b0), blk b3 42 (spL a0), Ex (hp w)]) | with_reducible apply TriR.seqMeet (α := Nat × Nat) (Lx := fun x => [(6, .bool false), (4, .pointer (some ⟨b4, 0, none⟩)), (3, .pointer (some ⟨b3, 0, none⟩)), (7, .pointer (some ⟨x.1, 0, none⟩)), (8, .pointer (some ⟨x.2, 0, none⟩))]) (Hx := fun x => [blk x.1 73 [Value.bool c0, .bool c1, .bool c2, .bool c3], blk x.2 71 [Value.int .u8 (k4.toNat : Int), .int .u8 (k5.toNat : Int), .int .u8 (k6.toNat : Int), .int .u8 (k7.toNat : Int)], blk b4 42 (spL b0), blk b3 42 (spL a0), Ex (hp w)])); rotate_left; (rintro ⟨b7, b8⟩; (try dsimp only)); rotate_left)
  · ((first | with_reducible apply Tri.mix [blk b5 72 [Value.int .u8 (k0.toNat : Int), .int .u8 (k1.toNat : Int), .int .u8 (k2.toNat : Int), .int .u8 (k3.toNat : Int), .int .u8 (k4.toNat : Int), .int .u8 (k5.toNat : Int), .int .u8 (k6.toNat : Int), .int .u8 (k7.toNat : Int)]] | ((with_reducible apply TriR.mix [blk b5 72 [Value.int .u8 (k0.toNat : Int), .int .u8 (k1.toNat : Int), .int .u8 (k2.toNat : Int), .int .u8 (k3.toNat : Int), .int .u8 (k4.toNat : Int), .int .u8 (k5.toNat : Int), .int .u8 (k6.toNat : Int), .int .u8 (k7.toNat : Int)]]); (case hnd => rfl))); (case p => (repeat (first | exact Pulls.nil | (apply Pulls.cons; (case a => (first | ((repeat (first | with_reducible exact Gv.Pull.head | with_reducible apply Gv.Pull.tail)); done) | (repeat (first | exact Gv.Pull.head | apply Gv.Pull.tail)))))))); (dsimp only [List.length]))
    ((first | ((with_reducible apply TriM.q 0); rfl; rfl) | ((with_reducible apply TriM.qYes 0); rfl; rfl; rfl; with_reducible rfl)); kernel_rfl; rfl; rfl; (intro F K hK; (with_reducible apply o_ixArr (j := 0)); rfl; rfl; rfl; (first | omega | assumption); rfl; exact hK); (first | ((with_reducible apply TriM.q 1); rfl; rfl) | ((with_reducible apply TriM.qYes 1); rfl; rfl; rfl; with_reducible rfl)); kernel_rfl; rfl; rfl; (intro F K hK; (with_reducible apply o_ixArr (j := 0)); rfl; rfl; rfl; (first | omega | assumption); rfl; exact hK); (first | ((with_reducible apply TriM.q 2); rfl; rfl) | ((with_reducible apply TriM.qYes 2); rfl; rfl; rfl; with_reducible rfl)); kernel_rfl; rfl; rfl; (intro F K hK; (with_reducible apply o_load); rfl; (focus (first | ((repeat (first | with_reducible exact Pull.head | with_reducible apply Pull.tail)); done) | (repeat (first | exact Pull.head | apply Pull.tail)))); rfl; rfl; exact hK); (first | ((with_reducible apply TriM.q 3); rfl; rfl) | ((with_reducible apply TriM.qYes 3); rfl; rfl; rfl; with_reducible rfl)); kernel_rfl; rfl; rfl; (intro F K hK; (with_reducible apply o_and); rfl; rfl; rfl; exact hK); (first | ((with_reducible apply TriM.q 4); rfl; rfl) | ((with_reducible apply TriM.qYes 4); rfl; rfl; rfl; with_reducible rfl)); kernel_rfl; rfl; rfl; (intro F K hK; (with_reducible apply o_eql); rfl; rfl; rfl; exact hK))
    ((with_reducible apply TriM.setb 29 (c0)); (case h => rfl); (case hi => exact hc0.symm))
    ((first | ((with_reducible apply TriM.q 5); rfl; rfl) | ((with_reducible apply TriM.qYes 5); rfl; rfl; rfl; with_reducible rfl)); kernel_rfl; rfl; rfl; (intro F K hK; (with_reducible apply o_ixArr (j := 0)); rfl; rfl; rfl; (first | omega | assumption); rfl; exact hK); (first | ((with_reducible apply TriM.q 6); rfl; rfl) | ((with_reducible apply TriM.qYes 6); rfl; rfl; rfl; with_reducible rfl)); kernel_rfl; rfl; rfl; (intro F K hK; (with_reducible apply o_ixArr (j := 1)); rfl; rfl; rfl; (first | omega | assumption); rfl; exact hK); (first | ((with_reducible apply TriM.q 7); rfl; rfl) | ((with_reducible apply TriM.qYes 7); rfl; rfl; rfl; with_reducible rfl)); kernel_rfl; rfl; rfl; (intro F K hK; (with_reducible apply o_load); rfl; (focus (first | ((repeat (first | with_reducible exact Pull.head | with_reducible apply Pull.tail)); done) | (repeat (first | exact Pull.head | apply Pull.tail)))); rfl; rfl; exact hK); (first | ((with_reducible apply TriM.q 8); rfl; rfl) | ((with_reducible apply TriM.qYes 8); rfl; rfl; rfl; with_reducible rfl)); kernel_rfl; rfl; rfl; (intro F K hK; (with_reducible apply o_and); rfl; rfl; rfl; exact hK); (first | ((with_reducible apply TriM.q 9); rfl; rfl) | ((with_reducible apply TriM.qYes 9); rfl; rfl; rfl; with_reducible rfl)); kernel_rfl; rfl; rfl; (intro F K hK; (with_reducible apply o_eql); rfl; rfl; rfl; exact hK))
    ((with_reducible apply TriM.setb 34 (c1)); (case h => rfl); (case hi => exact hc1.symm))
    ((first | ((with_reducible apply TriM.q 10); rfl; rfl) | ((with_reducible apply TriM.qYes 10); rfl; rfl; rfl; with_reducible rfl)); kernel_rfl; rfl; rfl; (intro F K hK; (with_reducible apply o_ixArr (j := 0)); rfl; rfl; rfl; (first | omega | assumption); rfl; exact hK); (first | ((with_reducible apply TriM.q 11); rfl; rfl) | ((with_reducible apply TriM.qYes 11); rfl; rfl; rfl; with_reducible rfl)); kernel_rfl; rfl; rfl; (intro F K hK; (with_reducible apply o_ixArr (j := 2)); rfl; rfl; rfl; (first | omega | assumption); rfl; exact hK); (first | ((with_reducible apply TriM.q 12); rfl; rfl) | ((with_reducible apply TriM.qYes 12); rfl; rfl; rfl; with_reducible rfl)); kernel_rfl; rfl; rfl; (intro F K hK; (with_reducible apply o_load); rfl; (focus (first | ((repeat (first | with_reducible exact Pull.head | with_reducible apply Pull.tail)); done) | (repeat (first | exact Pull.head | apply Pull.tail)))); rfl; rfl; exact hK); (first | ((with_reducible apply TriM.q 13); rfl; rfl) | ((with_reducible apply TriM.qYes 13); rfl; rfl; rfl; with_reducible rfl)); kernel_rfl; rfl; rfl; (intro F K hK; (with_reducible apply o_and); rfl; rfl; rfl; exact hK); (first | ((with_reducible apply TriM.q 14); rfl; rfl) | ((with_reducible apply TriM.qYes 14); rfl; rfl; rfl; with_reducible rfl)); kernel_rfl; rfl; rfl; (intro F K hK; (with_reducible apply o_eql); rfl; rfl; rfl; exact hK))
    ((with_reducible apply TriM.setb 39 (c2)); (case h => rfl); (case hi => exact hc2.symm))
    ((first | ((with_reducible apply TriM.q 15); rfl; rfl) | ((with_reducible apply TriM.qYes 15); rfl; rfl; rfl; with_reducible rfl)); kernel_rfl; rfl; rfl; (intro F K hK; (with_reducible apply o_ixArr (j := 0)); rfl; rfl; rfl; (first | omega | assumption); rfl; exact hK); (first | ((with_reducible apply TriM.q 16); rfl; rfl) | ((with_reducible apply TriM.qYes 16); rfl; rfl; rfl; with_reducible rfl)); kernel_rfl; rfl; rfl; (intro F K hK; (with_reducible apply o_ixArr (j := 3)); rfl; rfl; rfl; (first | omega | assumption); rfl; exact hK); (first | ((with_reducible apply TriM.q 17); rfl; rfl) | ((with_reducible apply TriM.qYes 17); rfl; rfl; rfl; with_reducible rfl)); kernel_rfl; rfl; rfl; (intro F K hK; (with_reducible apply o_load); rfl; (focus (first | ((repeat (first | with_reducible exact Pull.head | with_reducible apply Pull.tail)); done) | (repeat (first | exact Pull.head | apply Pull.tail)))); rfl; rfl; exact hK); (first | ((with_reducible apply TriM.q 18); rfl; rfl) | ((with_reducible apply TriM.qYes 18); rfl; rfl; rfl; with_reducible rfl)); kernel_rfl; rfl; rfl; (intro F K hK; (with_reducible apply o_and); rfl; rfl; rfl; exact hK); (first | ((with_reducible apply TriM.q 19); rfl; rfl) | ((with_reducible apply TriM.qYes 19); rfl; rfl; rfl; with_reducible rfl)); kernel_rfl; rfl; rfl; (intro F K hK; (with_reducible apply o_eql); rfl; rfl; rfl; exact hK))
    ((with_reducible apply TriM.setb 44 (c3)); (case h => rfl); (case hi => exact hc3.symm))
    ((first | ((with_reducible apply TriM.q 20); (case ho => rfl); (case hg => rfl)) | ((with_reducible apply TriM.qYes 20); (case ho => rfl); (case hg => rfl); (case hyl => rfl); (case hb => with_reducible rfl))); (case hB => kernel_rfl); (case hd => rfl); (case hn => rfl); (case h => (intro F K hK; ((with_reducible apply o_buildA (ys := [Value.bool c0, .bool c1, .bool c2, .bool c3])); (case hp => (repeat first | exact pev.nil | (apply pev.cons; case a => rfl))); (case hf => rfl); (case hn => rfl)); exact hK)))
    ((first | ((with_reducible apply TriM.q 21); rfl; rfl) | ((with_reducible apply TriM.qYes 21); rfl; rfl; rfl; with_reducible rfl)); kernel_rfl; rfl; rfl; (intro F K hK; (with_reducible apply o_ixArr (j := 1)); rfl; rfl; rfl; (first | omega | assumption); rfl; exact hK))
    ((first | ((with_reducible apply TriM.q 22); (case ho => rfl); (case hg => rfl)) | ((with_reducible apply TriM.qYes 22); (case ho => rfl); (case hg => rfl); (case hyl => rfl); (case hb => with_reducible rfl))); (case hB => kernel_rfl); (case hd => rfl); (case hn => rfl); (case h => (intro F K hK; ((with_reducible apply o_loadAgg (ys := [Value.int .u8 (k4.toNat : Int), .int .u8 (k5.toNat : Int), .int .u8 (k6.toNat : Int), .int .u8 (k7.toNat : Int)])); (case hx => rfl); (case p => (first | ((repeat (first | with_reducible exact Pull.head | with_reducible apply Pull.tail)); done) | (repeat (first | exact Pull.head | apply Pull.tail)))); (case hv => rfl); (case hl => rfl); (case hn => rfl)); exact hK)))
    ((with_reducible apply TriM.a2 23 24); (case hoi => rfl); (case hoj => rfl); (case hgi => rfl); (case hgj => rfl); (case hr => kernel_rfl); (all_goals (try dsimp only [List.cons_append, List.nil_append])))
    · ((with_reducible apply o_alloc); (case hn => rfl); intro b7)
      ((with_reducible apply TriM.back); (case p => (repeat (first | exact Pulls.nil | (apply Pulls.cons; (case a => (first | ((repeat (first | with_reducible exact Gv.Pull.head | with_reducible apply Gv.Pull.tail)); done) | (repeat (first | exact Gv.Pull.head | apply Gv.Pull.tail)))))))))
      ((with_reducible apply TriM.a 24); (case ho => rfl); (case hg => rfl); (case hr => kernel_rfl); (try dsimp only [List.cons_append, List.nil_append]))
      ((with_reducible apply o_alloc); (case hn => rfl); intro b8)
      ((with_reducible apply TriM.back); (case p => (repeat (first | exact Pulls.nil | (apply Pulls.cons; (case a => (first | ((repeat (first | with_reducible exact Gv.Pull.head | with_reducible apply Gv.Pull.tail)); done) | (repeat (first | exact Gv.Pull.head | apply Gv.Pull.tail)))))))))
      ((with_reducible apply TriM.a 25); (case ho => rfl); (case hg => rfl); (case hr => kernel_rfl); (try dsimp only [List.cons_append, List.nil_append]))
      ((with_reducible apply o_storeAll (ys := [Value.bool c0, .bool c1, .bool c2, .bool c3])); (case hx => rfl); (case hy => rfl); (case p => (first | ((repeat (first | with_reducible exact Pull.head | with_reducible apply Pull.tail)); done) | (repeat (first | exact Pull.head | apply Pull.tail)))); (case hl => rfl); (case hc => rfl); (case h1 => (intro y hy; simp at hy; rcases hy with rfl | rfl | rfl | rfl <;> rfl)))
      ((with_reducible apply TriM.back); (case p => (repeat (first | exact Pulls.nil | (apply Pulls.cons; (case a => (first | ((repeat (first | with_reducible exact Gv.Pull.head | with_reducible apply Gv.Pull.tail)); done) | (repeat (first | exact Gv.Pull.head | apply Gv.Pull.tail)))))))))
      ((with_reducible apply TriM.a 26); (case ho => rfl); (case hg => rfl); (case hr => kernel_rfl); (try dsimp only [List.cons_append, List.nil_append]))
      ((with_reducible apply o_storeAll (ys := [Value.int .u8 (k4.toNat : Int), .int .u8 (k5.toNat : Int), .int .u8 (k6.toNat : Int), .int .u8 (k7.toNat : Int)])); (case hx => rfl); (case hy => rfl); (case p => (first | ((repeat (first | with_reducible exact Pull.head | with_reducible apply Pull.tail)); done) | (repeat (first | exact Pull.head | apply Pull.tail)))); (case hl => rfl); (case hc => rfl); (case h1 => (intro y hy; simp at hy; rcases hy with rfl | rfl | rfl | rfl <;> rfl)))
      ((with_reducible apply TriM.back); (case p => (repeat (first | exact Pulls.nil | (apply Pulls.cons; (case a => (first | ((repeat (first | with_reducible exact Gv.Pull.head | with_reducible apply Gv.Pull.tail)); done) | (repeat (first | exact Gv.Pull.head | apply Gv.Pull.tail)))))))))
      ((with_reducible apply TriM.nil); (case hr => kernel_rfl); (try dsimp only [List.cons_append, List.nil_append]))
      ((with_reducible refine Tri.thenN ?_))
      ((with_reducible apply Tri.reach (y := (b7, b8))); (case hL => ((try dsimp only); (repeat (first | exact trivial | refine And.intro (by rfl) ?_)))); (case p => ((try dsimp only); (repeat (first | exact Pulls.nil | (apply Pulls.cons; (case a => (first | ((repeat (first | with_reducible exact Gv.Pull.head | with_reducible apply Gv.Pull.tail)); done) | (repeat (first | exact Gv.Pull.head | apply Gv.Pull.tail))))))))))
    · ((with_reducible apply o_alloc); (case hn => rfl); intro b8)
      ((with_reducible apply TriM.back); (case p => (repeat (first | exact Pulls.nil | (apply Pulls.cons; (case a => (first | ((repeat (first | with_reducible exact Gv.Pull.head | with_reducible apply Gv.Pull.tail)); done) | (repeat (first | exact Gv.Pull.head | apply Gv.Pull.tail)))))))))
      ((with_reducible apply TriM.a 23); (case ho => rfl); (case hg => rfl); (case hr => kernel_rfl); (try dsimp only [List.cons_append, List.nil_append]))
      ((with_reducible apply o_alloc); (case hn => rfl); intro b7)
      ((with_reducible apply TriM.back); (case p => (repeat (first | exact Pulls.nil | (apply Pulls.cons; (case a => (first | ((repeat (first | with_reducible exact Gv.Pull.head | with_reducible apply Gv.Pull.tail)); done) | (repeat (first | exact Gv.Pull.head | apply Gv.Pull.tail)))))))))
      ((with_reducible apply TriM.a 25); (case ho => rfl); (case hg => rfl); (case hr => kernel_rfl); (try dsimp only [List.cons_append, List.nil_append]))
      ((with_reducible apply o_storeAll (ys := [Value.bool c0, .bool c1, .bool c2, .bool c3])); (case hx => rfl); (case hy => rfl); (case p => (first | ((repeat (first | with_reducible exact Pull.head | with_reducible apply Pull.tail)); done) | (repeat (first | exact Pull.head | apply Pull.tail)))); (case hl => rfl); (case hc => rfl); (case h1 => (intro y hy; simp at hy; rcases hy with rfl | rfl | rfl | rfl <;> rfl)))
      ((with_reducible apply TriM.back); (case p => (repeat (first | exact Pulls.nil | (apply Pulls.cons; (case a => (first | ((repeat (first | with_reducible exact Gv.Pull.head | with_reducible apply Gv.Pull.tail)); done) | (repeat (first | exact Gv.Pull.head | apply Gv.Pull.tail)))))))))
      ((with_reducible apply TriM.a 26); (case ho => rfl); (case hg => rfl); (case hr => kernel_rfl); (try dsimp only [List.cons_append, List.nil_append]))
      ((with_reducible apply o_storeAll (ys := [Value.int .u8 (k4.toNat : Int), .int .u8 (k5.toNat : Int), .int .u8 (k6.toNat : Int), .int .u8 (k7.toNat : Int)])); (case hx => rfl); (case hy => rfl); (case p => (first | ((repeat (first | with_reducible exact Pull.head | with_reducible apply Pull.tail)); done) | (repeat (first | exact Pull.head | apply Pull.tail)))); (case hl => rfl); (case hc => rfl); (case h1 => (intro y hy; simp at hy; rcases hy with rfl | rfl | rfl | rfl <;> rfl)))
      ((with_reducible apply TriM.back); (case p => (repeat (first | exact Pulls.nil | (apply Pulls.cons; (case a => (first | ((repeat (first | with_reducible exact Gv.Pull.head | with_reducible apply Gv.Pull.tail)); done) | (repeat (first | exact Gv.Pull.head | apply Gv.Pull.tail)))))))))
      ((with_reducible apply TriM.nil); (case hr => kernel_rfl); (try dsimp only [List.cons_append, List.nil_append]))
      ((with_reducible refine Tri.thenN ?_))
      ((with_reducible apply Tri.reach (y := (b7, b8))); (case hL => ((try dsimp only); (repeat (first | exact trivial | refine And.intro (by rfl) ?_)))); (case p => ((try dsimp only); (repeat (first | exact Pulls.nil | (apply Pulls.cons; (case a => (first | ((repeat (first | with_reducible exact Gv.Pull.head | with_reducible apply Gv.Pull.tail)); done) | (repeat (first | exact Gv.Pull.head | apply Gv.Pull.tail))))))))))
  ((with_reducible refine Tri.seq (Tri.region ?_)); (with_reducible apply Tri.op); rfl)
  ((with_reducible apply o_callR (hs := disk_NewD 16 (by omega))); (case hargs => (repeat first | exact evs.nil | (apply evs.cons; case a => rfl))); (case hpre => exact fun _ _ => trivial); (case hn => rfl))
  rintro r1 H1 ⟨d, rfl, rfl⟩
  (try dsimp only [List.cons_append, List.nil_append])
  ((with_reducible apply Tri.op); rfl; (with_reducible apply o_move); rfl; rfl; (with_reducible apply Tri.op); rfl; (with_reducible apply o_extract); rfl; rfl; rfl; (with_reducible apply Tri.op); rfl; (with_reducible apply o_extract); rfl; rfl; rfl; (with_reducible apply Tri.op); rfl; (with_reducible apply o_assign); rfl; rfl; (with_reducible apply Tri.op); rfl; (with_reducible apply o_assign); rfl; rfl; (with_reducible refine Tri.nil (Tri.thenN (Tri.seq (Tri.region ?_)))); (with_reducible apply Tri.op); rfl)
  ((with_reducible apply o_callV (hs := crc_New)); (case hargs => (repeat first | exact evs.nil | (apply evs.cons; case a => rfl))); (case hpre => exact fun _ _ => trivial); (case hn => rfl))
  ((with_reducible apply Tri.op); rfl)
  ((with_reducible apply o_alloc); (case hn => rfl); intro b11)
  ((with_reducible apply Tri.op); rfl)
  ((with_reducible apply o_storeAll); (case hx => rfl); (case hy => rfl); (case p => (first | ((repeat (first | with_reducible exact Pull.head | with_reducible apply Pull.tail)); done) | (repeat (first | exact Pull.head | apply Pull.tail)))); (case hl => exact tabL_length); (case hc => exact List.length_replicate); (case h1 => exact tabL_one))
  ((with_reducible refine Tri.nil (Tri.thenN (Tri.seq (Tri.region ?_)))); (with_reducible apply Tri.op); rfl; (with_reducible apply o_fieldAddr); rfl; rfl; (with_reducible apply Tri.op); rfl; (with_reducible apply o_store); rfl; rfl; rfl; (focus (first | ((repeat (first | with_reducible exact Pull.head | with_reducible apply Pull.tail)); done) | (repeat (first | exact Pull.head | apply Pull.tail)))); (exact Nat.le_of_ble_eq_true rfl); (with_reducible apply Tri.op); rfl; (with_reducible apply o_fieldAddr); rfl; rfl; (with_reducible apply Tri.op); rfl; (with_reducible apply o_store); rfl; rfl; rfl; (focus (first | ((repeat (first | with_reducible exact Pull.head | with_reducible apply Pull.tail)); done) | (repeat (first | exact Pull.head | apply Pull.tail)))); (exact Nat.le_of_ble_eq_true rfl); (with_reducible refine Tri.nil (Tri.thenN (Tri.seq (Tri.region ?_)))); (with_reducible apply Tri.op); rfl; (with_reducible apply o_fieldAddr); rfl; rfl; (with_reducible apply Tri.op); rfl; (with_reducible apply o_load); rfl; (focus (first | ((repeat (first | with_reducible exact Pull.head | with_reducible apply Pull.tail)); done) | (repeat (first | exact Pull.head | apply Pull.tail)))); rfl; rfl; (with_reducible apply Tri.op); rfl; (with_reducible apply o_rem); rfl; rfl; rfl; (omega); (omega); (with_reducible apply Tri.op); rfl; (with_reducible apply o_add); rfl; rfl; rfl; (with_reducible apply Tri.op); rfl; (with_reducible apply o_fieldAddr); rfl; rfl; (with_reducible apply Tri.op); rfl; (with_reducible apply o_store); rfl; rfl; rfl; (focus (first | ((repeat (first | with_reducible exact Pull.head | with_reducible apply Pull.tail)); done) | (repeat (first | exact Pull.head | apply Pull.tail)))); (exact Nat.le_of_ble_eq_true rfl); (with_reducible refine Tri.nil (Tri.thenN (Tri.seq (Tri.region ?_)))); (with_reducible apply Tri.op); rfl; (with_reducible apply o_fieldAddr); rfl; rfl; (with_reducible apply Tri.op); rfl; (with_reducible apply o_load); rfl; (focus (first | ((repeat (first | with_reducible exact Pull.head | with_reducible apply Pull.tail)); done) | (repeat (first | exact Pull.head | apply Pull.tail)))); rfl; rfl; (with_reducible apply Tri.op); rfl; (with_reducible apply o_add); rfl; rfl; rfl; (with_reducible apply Tri.op); rfl; (with_reducible apply o_fieldAddr); rfl; rfl; (with_reducible apply Tri.op); rfl; (with_reducible apply o_store); rfl; rfl; rfl; (focus (first | ((repeat (first | with_reducible exact Pull.head | with_reducible apply Pull.tail)); done) | (repeat (first | exact Pull.head | apply Pull.tail)))); (exact Nat.le_of_ble_eq_true rfl); (with_reducible refine Tri.nil (Tri.thenN (Tri.seq ?_))))
  obtain ⟨a, ha⟩ : ∃ s : SP, s = ⟨a0.gen % 1000 + 1, a0.addr, a0.height, a0.bitmap, 16⟩ := ⟨_, rfl⟩
  obtain ⟨b, hb⟩ : ∃ s : SP, s = ⟨a0.gen % 1000 + 2, b0.addr, b0.height, b0.bitmap, 16⟩ := ⟨_, rfl⟩
  have hag : a.gen = a0.gen % 1000 + 1 := by rw [ha]
  have hbg : b.gen = a0.gen % 1000 + 2 := by rw [hb]
  have hap : a.pages = 16 := by rw [ha]
  have hbp : b.pages = 16 := by rw [hb]
  have hga : a.gen < 18446744073709551616 := by omega
  have hgb : b.gen < 18446744073709551616 := by omega
  have hgab : b.gen = a.gen + 1 := by omega
  have w1 : IntKind.u64.wrap ((a0.gen : Int) % 1000 + 1) = ((a0.gen % 1000 + 1 : Nat) : Int) := by rw [wrap_u64 (by omega)]; omega
  have w2 : IntKind.u64.wrap (((a0.gen % 1000 + 1 : Nat) : Int) + 1) = ((a0.gen % 1000 + 2 : Nat) : Int) := by rw [wrap_u64 (by omega)]; omega
  ((with_reducible apply Tri.eqA (A := blk b3 42 _) (B := blk b3 42 (spL a))); (case p => (first | ((repeat (first | with_reducible exact Pull.head | with_reducible apply Pull.tail)); done) | (repeat (first | exact Pull.head | apply Pull.tail)))); (case e => (rw [w1, ha]; rfl)))
  ((with_reducible apply Tri.eqA (A := blk b4 42 _) (B := blk b4 42 (spL b))); (case p => (first | ((repeat (first | with_reducible exact Pull.head | with_reducible apply Pull.tail)); done) | (repeat (first | exact Pull.head | apply Pull.tail)))); (case e => (rw [w1, w2, hb]; rfl)))
  have hon0 := DS.new_on 16 (by omega)
  have hok0 := hon0.1
  have hAl0 : (DS.new 16).A.length = 4096 := DS.new_len 16
  have hWl0 : (DS.new 16).W.length = 0 := by rw [DS.new_W]; rfl
  obtain ⟨he1, hon1, hV1l, hW1l, hp1⟩ := tear_first a
  obtain ⟨R, hR⟩ : ∃ R, R = wrS (DS.new 16) a := ⟨_, rfl⟩
  rw [← hR] at he1 hon1 hV1l hW1l hp1
  ((first | with_reducible apply Tri.mix [blk b11 63 tabL, blk b3 42 (spL a)] | ((with_reducible apply TriR.mix [blk b11 63 tabL, blk b3 42 (spL a)]); (case hnd => rfl))); (case p => (repeat (first | exact Pulls.nil | (apply Pulls.cons; (case a => (first | ((repeat (first | with_reducible exact Gv.Pull.head | with_reducible apply Gv.Pull.tail)); done) | (repeat (first | exact Gv.Pull.head | apply Gv.Pull.tail)))))))); (dsimp only [List.length]))
  ((first | ((with_reducible apply TriM.q 0); (case ho => rfl); (case hg => rfl)) | ((with_reducible apply TriM.qYes 0); (case ho => rfl); (case hg => rfl); (case hyl => rfl); (case hb => with_reducible rfl))); (case hB => kernel_rfl); (case hd => rfl); (case hn => rfl); (case h => (intro F K hK; ((with_reducible apply o_loadAll); (case hx => rfl); (case p => (first | ((repeat (first | with_reducible exact Pull.head | with_reducible apply Pull.tail)); done) | (repeat (first | exact Pull.head | apply Pull.tail)))); (case hl => exact tabL_length); (case hn => rfl)); exact hK)))
  ((first | ((with_reducible apply TriM.q 1); rfl; rfl) | ((with_reducible apply TriM.qYes 1); rfl; rfl; rfl; with_reducible rfl)); kernel_rfl; rfl; rfl; (intro F K hK; (with_reducible apply o_move); rfl; rfl; exact hK))
  ((first | ((with_reducible apply TriM.q 2); (case ho => rfl); (case hg => rfl)) | ((with_reducible apply TriM.qYes 2); (case ho => rfl); (case hg => rfl); (case hyl => rfl); (case hb => with_reducible rfl))); (case hB => kernel_rfl); (case hd => rfl); (case hn => rfl); (case h => (intro F K hK; ((with_reducible apply o_loadAll (cs := spL a)); (case hx => rfl); (case p => exact (by (first | ((repeat (first | with_reducible exact Pull.head | with_reducible apply Pull.tail)); done) | (repeat (first | exact Pull.head | apply Pull.tail))))); (case hl => rfl); (case hn => rfl)); exact hK)))
  ((first | ((with_reducible apply TriM.q 3); (case ho => rfl); (case hg => rfl)) | ((with_reducible apply TriM.qYes 3); (case ho => rfl); (case hg => rfl); (case hyl => rfl); (case hb => with_reducible rfl))); (case hB => kernel_rfl); (case hd => rfl); (case hn => rfl); (case h => (intro F K hK; (with_reducible apply o_callV (hs := law15_to a)); (case hargs => (repeat first | exact evs.nil | (apply evs.cons; case a => rfl))); (case hpre => exact fun _ _ => trivial); (case hn => rfl); exact hK)))
  ((with_reducible apply TriM.a 4); (case ho => rfl); (case hg => rfl); (case hr => kernel_rfl); (try dsimp only [List.cons_append, List.nil_append]))
  ((with_reducible apply o_callS (hs := super_Write d (DS.new 16) a hga hok0 (by omega))); (case hargs => (repeat first | exact evs.nil | (apply evs.cons; case a => rfl))); (case p => (repeat (first | exact Pulls.nil | (apply Pulls.cons; (case a => (first | ((repeat (first | with_reducible exact Gv.Pull.head | with_reducible apply Gv.Pull.tail)); done) | (repeat (first | exact Gv.Pull.head | apply Gv.Pull.tail)))))))); (case hn => rfl))
  rintro r3 H3 ⟨rfl, rfl⟩
  rw [← hR]
  obtain ⟨S1, e1⟩ := R
  dsimp only at he1 hon1 hV1l hW1l hp1 ⊢
  (try dsimp only [List.cons_append, List.nil_append])
  ((with_reducible apply TriM.back); (case p => (repeat (first | exact Pulls.nil | (apply Pulls.cons; (case a => (first | ((repeat (first | with_reducible exact Gv.Pull.head | with_reducible apply Gv.Pull.tail)); done) | (repeat (first | exact Gv.Pull.head | apply Gv.Pull.tail)))))))))
  ((first | ((with_reducible apply TriM.q 5); rfl; rfl) | ((with_reducible apply TriM.qYes 5); rfl; rfl; rfl; with_reducible rfl)); kernel_rfl; rfl; rfl; (intro F K hK; (with_reducible apply o_assign); rfl; rfl; exact hK))
  ((with_reducible apply TriM.nil); (case hr => kernel_rfl); (try dsimp only [List.cons_append, List.nil_append]))
  have hok1 := hon1.1
  have hfl := fl_on hon1
  obtain ⟨V1, hV1⟩ : ∃ V, V = S1.V := ⟨_, rfl⟩
  rw [← hV1] at hV1l hp1 hfl
  have hon2 : (DS.of V1).on := DS.of_on (by rw [hV1l]; decide)
  have hok2 := hon2.1
  ((with_reducible refine Tri.thenN (Tri.seq (Tri.region ?_))); (with_reducible apply Tri.op); rfl; (with_reducible apply o_move); rfl; rfl; (with_reducible apply Tri.op); rfl)
  ((with_reducible apply o_callS (hs := disk_FlushD d S1 hok1 hW1l)); (case hargs => (repeat first | exact evs.nil | (apply evs.cons; case a => rfl))); (case p => (repeat (first | exact Pulls.nil | (apply Pulls.cons; (case a => (first | ((repeat (first | with_reducible exact Gv.Pull.head | with_reducible apply Gv.Pull.tail)); done) | (repeat (first | exact Gv.Pull.head | apply Gv.Pull.tail)))))))); (case hn => rfl))
  rintro r4 H4 ⟨rfl, rfl⟩
  rw [hfl]
  (try dsimp only [List.cons_append, List.nil_append])
  ((with_reducible apply Tri.op); rfl; (with_reducible apply o_assign); rfl; rfl; (with_reducible refine Tri.nil (Tri.thenN (Tri.seq (Tri.seq (Tri.region ?_))))); (with_reducible apply Tri.op); rfl)
  ((with_reducible apply o_callV (hs := law15_counts)); (case hargs => (repeat first | exact evs.nil | (apply evs.cons; case a => rfl))); (case hpre => exact fun _ _ => trivial); (case hn => rfl))
  ((with_reducible apply Tri.op); rfl; (with_reducible apply o_not); rfl; rfl; (with_reducible apply Tri.op); rfl; (with_reducible apply o_move); rfl; rfl)
  ((with_reducible apply Tri.setb 73 (false)); (case h => rfl); (case hi => rfl))
  ((with_reducible apply Tri.opYes); rfl; rfl; rfl; (with_reducible apply o_move); rfl; rfl; (with_reducible apply Tri.opYes); rfl; rfl; rfl; (with_reducible apply o_neq); rfl; rfl; rfl; (with_reducible apply Tri.op); rfl; (with_reducible apply o_pickF); (iterate 4 rfl); (with_reducible apply Tri.op); rfl; (with_reducible apply o_move); rfl; rfl)
  ((with_reducible apply Tri.setb 77 (false)); (case h => rfl); (case hi => rfl))
  ((with_reducible apply Tri.opYes); rfl; rfl; rfl; (with_reducible apply o_move); rfl; rfl; (with_reducible apply Tri.opYes); rfl; rfl; rfl; (with_reducible apply o_neq); rfl; rfl; rfl; (with_reducible apply Tri.op); rfl; (with_reducible apply o_pickF); (iterate 4 rfl); (with_reducible refine Tri.nil (Tri.thenN ?_)))
  ((with_reducible apply Tri.setb 80 (false)); (case h => rfl); (case hi => rfl))
  ((with_reducible apply Tri.condF); rfl; rfl; (with_reducible refine Tri.skip (Tri.thenN (Tri.seq (Tri.seq (Tri.region ?_))))); (with_reducible apply Tri.op); rfl)
  ((with_reducible apply o_loadAll (cs := spL a)); (case hx => rfl); (case p => exact (by (first | ((repeat (first | with_reducible exact Pull.head | with_reducible apply Pull.tail)); done) | (repeat (first | exact Pull.head | apply Pull.tail))))); (case hl => rfl); (case hn => rfl))
  ((with_reducible apply Tri.op); rfl)
  ((with_reducible apply o_callV (hs := ref15_Right a)); (case hargs => (repeat first | exact evs.nil | (apply evs.cons; case a => rfl))); (case hpre => exact fun _ _ => trivial); (case hn => rfl))
  by_cases qa : okS a = true
  rotate_left
  · have qan : okS a = false := by simpa using qa
    rw [qan]
    ((with_reducible apply Tri.op); rfl; (with_reducible apply o_not); rfl; rfl; (with_reducible apply Tri.op); rfl; (with_reducible apply o_move); rfl; rfl)
    ((with_reducible apply Tri.setb 84 (true)); (case h => rfl); (case hi => rfl))
    ((iterate 3 (with_reducible apply Tri.opNo (c := true)); (iterate 6 rfl)); (with_reducible apply Tri.op); rfl; (with_reducible apply o_pickT); (iterate 4 rfl); (with_reducible refine Tri.nil (Tri.thenN ?_)); (with_reducible apply Tri.condT); rfl; rfl; (with_reducible refine Tri.seq (Tri.region ?_)); (with_reducible apply Tri.op); rfl; (with_reducible apply o_move); rfl; rfl; (with_reducible apply Tri.op); rfl; (with_reducible apply o_eql); rfl; rfl; rfl; (with_reducible apply Tri.op); rfl)
    ((with_reducible apply Tri.setb 88 (true)); (case h => rfl); (case hi => rfl))
    skip
    ((with_reducible apply o_loadAll (cs := spL a)); (case hx => rfl); (case p => exact (by (first | ((repeat (first | with_reducible exact Pull.head | with_reducible apply Pull.tail)); done) | (repeat (first | exact Pull.head | apply Pull.tail))))); (case hl => rfl); (case hn => rfl))
    ((with_reducible apply Tri.op); rfl)
    ((with_reducible apply o_callV (hs := ref15_Right a)); (case hargs => (repeat first | exact evs.nil | (apply evs.cons; case a => rfl))); (case hpre => exact fun _ _ => trivial); (case hn => rfl))
    rw [qan]
    ((with_reducible apply Tri.op); rfl; (with_reducible apply o_eqlB); rfl; rfl; rfl; (with_reducible apply Tri.op); rfl; (with_reducible apply o_assign); rfl; rfl; (with_reducible refine Tri.nil (Tri.thenN (Tri.ret (Tri.thenR ?_)))))
    ((with_reducible apply Tri.setb 6 (true)); (case h => rfl); (case hi => (rw [he1, if_neg qa]; rfl)))
    (first | with_reducible apply Tri.fin | with_reducible apply Tri.finN)
    case hr => rfl
    case h => exact ResL.cons (Res1.tmp rfl) ResL.nil
    exact fin_law (F := []) w (by (repeat (first | exact Pulls.nil | (apply Pulls.cons; (case a => (first | ((repeat (first | with_reducible exact Gv.Pull.head | with_reducible apply Gv.Pull.tail)); done) | (repeat (first | exact Gv.Pull.head | apply Gv.Pull.tail)))))))) _ rfl
  rw [qa]
  ((with_reducible apply Tri.op); rfl; (with_reducible apply o_not); rfl; rfl; (with_reducible apply Tri.op); rfl; (with_reducible apply o_move); rfl; rfl)
  ((with_reducible apply Tri.setb 84 (false)); (case h => rfl); (case hi => rfl))
  ((with_reducible apply Tri.opYes); rfl; rfl; rfl)
  ((with_reducible apply o_loadAll (cs := spL b)); (case hx => rfl); (case p => exact (by (first | ((repeat (first | with_reducible exact Pull.head | with_reducible apply Pull.tail)); done) | (repeat (first | exact Pull.head | apply Pull.tail))))); (case hl => rfl); (case hn => rfl))
  ((with_reducible apply Tri.opYes); rfl; rfl; rfl)
  ((with_reducible apply o_callV (hs := ref15_Right b)); (case hargs => (repeat first | exact evs.nil | (apply evs.cons; case a => rfl))); (case hpre => exact fun _ _ => trivial); (case hn => rfl))
  by_cases qb : okS b = true
  rotate_left
  · have qbn : okS b = false := by simpa using qb
    rw [qbn]
    ((with_reducible apply Tri.opYes); rfl; rfl; rfl; (with_reducible apply o_not); rfl; rfl; (with_reducible apply Tri.op); rfl; (with_reducible apply o_pickF); (iterate 4 rfl); (with_reducible refine Tri.nil (Tri.thenN ?_)))
    ((with_reducible apply Tri.setb 88 (true)); (case h => rfl); (case hi => rfl))
    ((with_reducible apply Tri.condT); rfl; rfl; (with_reducible refine Tri.seq (Tri.region ?_)); (with_reducible apply Tri.op); rfl; (with_reducible apply o_move); rfl; rfl; (with_reducible apply Tri.op); rfl; (with_reducible apply o_eql); rfl; rfl; rfl; (with_reducible apply Tri.op); rfl)
    ((with_reducible apply o_loadAll (cs := spL a)); (case hx => rfl); (case p => exact (by (first | ((repeat (first | with_reducible exact Pull.head | with_reducible apply Pull.tail)); done) | (repeat (first | exact Pull.head | apply Pull.tail))))); (case hl => rfl); (case hn => rfl))
    ((with_reducible apply Tri.op); rfl)
    ((with_reducible apply o_callV (hs := ref15_Right a)); (case hargs => (repeat first | exact evs.nil | (apply evs.cons; case a => rfl))); (case hpre => exact fun _ _ => trivial); (case hn => rfl))
    rw [qa]
    ((with_reducible apply Tri.op); rfl; (with_reducible apply o_eqlB); rfl; rfl; rfl; (with_reducible apply Tri.op); rfl; (with_reducible apply o_assign); rfl; rfl; (with_reducible refine Tri.nil (Tri.thenN (Tri.ret (Tri.thenR ?_)))))
    ((with_reducible apply Tri.setb 6 (true)); (case h => rfl); (case hi => (rw [he1, if_pos qa]; rfl)))
    (first | with_reducible apply Tri.fin | with_reducible apply Tri.finN)
    case hr => rfl
    case h => exact ResL.cons (Res1.tmp rfl) ResL.nil
    exact fin_law (F := []) w (by (repeat (first | exact Pulls.nil | (apply Pulls.cons; (case a => (first | ((repeat (first | with_reducible exact Gv.Pull.head | with_reducible apply Gv.Pull.tail)); done) | (repeat (first | exact Gv.Pull.head | apply Gv.Pull.tail)))))))) _ rfl
  rw [qb]
  ((with_reducible apply Tri.opYes); rfl; rfl; rfl; (with_reducible apply o_not); rfl; rfl; (with_reducible apply Tri.op); rfl; (with_reducible apply o_pickF); (iterate 4 rfl); (with_reducible refine Tri.nil (Tri.thenN ?_)))
  ((with_reducible apply Tri.setb 88 (false)); (case h => rfl); (case hi => rfl))
  ((with_reducible apply Tri.condF); rfl; rfl; (with_reducible refine Tri.skip (Tri.thenN (Tri.seq ?_))))
  have hA5 : 512 ≤ V1.length := by rw [hV1l]; decide
  have hA6 : V1.length ≤ 1000000 := by rw [hV1l]; decide
  have hW2 : (DS.of V1).W.length ≤ 800000 := Nat.zero_le _
  have hw2 := wrS_W hA5 qb
  have he2 : (wrS (DS.of V1) b).2 = 0 := by rw [hw2]
  ((first | with_reducible apply Tri.mix [blk b11 63 tabL, blk b4 42 (spL b)] | ((with_reducible apply TriR.mix [blk b11 63 tabL, blk b4 42 (spL b)]); (case hnd => rfl))); (case p => (repeat (first | exact Pulls.nil | (apply Pulls.cons; (case a => (first | ((repeat (first | with_reducible exact Gv.Pull.head | with_reducible apply Gv.Pull.tail)); done) | (repeat (first | exact Gv.Pull.head | apply Gv.Pull.tail)))))))); (dsimp only [List.length]))
  ((first | ((with_reducible apply TriM.q 0); (case ho => rfl); (case hg => rfl)) | ((with_reducible apply TriM.qYes 0); (case ho => rfl); (case hg => rfl); (case hyl => rfl); (case hb => with_reducible rfl))); (case hB => kernel_rfl); (case hd => rfl); (case hn => rfl); (case h => (intro F K hK; ((with_reducible apply o_loadAll); (case hx => rfl); (case p => (first | ((repeat (first | with_reducible exact Pull.head | with_reducible apply Pull.tail)); done) | (repeat (first | exact Pull.head | apply Pull.tail)))); (case hl => exact tabL_length); (case hn => rfl)); exact hK)))
  ((first | ((with_reducible apply TriM.q 1); rfl; rfl) | ((with_reducible apply TriM.qYes 1); rfl; rfl; rfl; with_reducible rfl)); kernel_rfl; rfl; rfl; (intro F K hK; (with_reducible apply o_move); rfl; rfl; exact hK))
  ((first | ((with_reducible apply TriM.q 2); (case ho => rfl); (case hg => rfl)) | ((with_reducible apply TriM.qYes 2); (case ho => rfl); (case hg => rfl); (case hyl => rfl); (case hb => with_reducible rfl))); (case hB => kernel_rfl); (case hd => rfl); (case hn => rfl); (case h => (intro F K hK; ((with_reducible apply o_loadAll (cs := spL b)); (case hx => rfl); (case p => exact (by (first | ((repeat (first | with_reducible exact Pull.head | with_reducible apply Pull.tail)); done) | (repeat (first | exact Pull.head | apply Pull.tail))))); (case hl => rfl); (case hn => rfl)); exact hK)))
  ((first | ((with_reducible apply TriM.q 3); (case ho => rfl); (case hg => rfl)) | ((with_reducible apply TriM.qYes 3); (case ho => rfl); (case hg => rfl); (case hyl => rfl); (case hb => with_reducible rfl))); (case hB => kernel_rfl); (case hd => rfl); (case hn => rfl); (case h => (intro F K hK; (with_reducible apply o_callV (hs := law15_to b)); (case hargs => (repeat first | exact evs.nil | (apply evs.cons; case a => rfl))); (case hpre => exact fun _ _ => trivial); (case hn => rfl); exact hK)))
  ((with_reducible apply TriM.a 4); (case ho => rfl); (case hg => rfl); (case hr => kernel_rfl); (try dsimp only [List.cons_append, List.nil_append]))
  ((with_reducible apply o_callS (hs := super_Write d (DS.of V1) b hgb hok2 hW2)); (case hargs => (repeat first | exact evs.nil | (apply evs.cons; case a => rfl))); (case p => (repeat (first | exact Pulls.nil | (apply Pulls.cons; (case a => (first | ((repeat (first | with_reducible exact Gv.Pull.head | with_reducible apply Gv.Pull.tail)); done) | (repeat (first | exact Gv.Pull.head | apply Gv.Pull.tail)))))))); (case hn => rfl))
  rintro r5 H5 ⟨rfl, rfl⟩
  rw [he2]
  (try dsimp only [List.cons_append, List.nil_append])
  ((with_reducible apply TriM.back); (case p => (repeat (first | exact Pulls.nil | (apply Pulls.cons; (case a => (first | ((repeat (first | with_reducible exact Gv.Pull.head | with_reducible apply Gv.Pull.tail)); done) | (repeat (first | exact Gv.Pull.head | apply Gv.Pull.tail)))))))))
  ((first | ((with_reducible apply TriM.q 5); rfl; rfl) | ((with_reducible apply TriM.qYes 5); rfl; rfl; rfl; with_reducible rfl)); kernel_rfl; rfl; rfl; (intro F K hK; (with_reducible apply o_assign); rfl; rfl; exact hK))
  ((with_reducible apply TriM.nil); (case hr => kernel_rfl); (try dsimp only [List.cons_append, List.nil_append]))
  obtain ⟨FT, hFT⟩ : ∃ FT : List (Bool × UInt8), FT = [(c0, k4), (c1, k5), (c2, k6), (c3, k7)] := ⟨_, rfl⟩
  have hFl : FT.length = 4 := by rw [hFT]; rfl
  have hL : ∀ i, i < 4 → ∃ c kk, [Value.bool c0, .bool c1, .bool c2, .bool c3][0 + i * 1]? = some (.bool c) ∧ [Value.int .u8 (k4.toNat : Int), .int .u8 (k5.toNat : Int), .int .u8 (k6.toNat : Int), .int .u8 (k7.toNat : Int)][0 + i * 1]? = some (.int .u8 ((kk : UInt8).toNat : Int)) ∧ FT.take (i + 1) = FT.take i ++ [(c, kk)] := by
    intro i hi
    rw [hFT]
    match i, hi with
    | 0, _ => exact ⟨c0, k4, rfl, rfl, rfl⟩
    | 1, _ => exact ⟨c1, k5, rfl, rfl, rfl⟩
    | 2, _ => exact ⟨c2, k6, rfl, rfl, rfl⟩
    | 3, _ => exact ⟨c3, k7, rfl, rfl, rfl⟩
  ((with_reducible refine Tri.thenN (Tri.seq (Tri.region ?_))); (with_reducible apply Tri.op); rfl; (with_reducible apply o_assign); rfl; rfl; (with_reducible refine Tri.nil (Tri.thenN (Tri.seq (Tri.region ?_)))); (with_reducible apply Tri.op); rfl; (with_reducible apply o_assign); rfl; rfl; (with_reducible apply Tri.op); rfl; (with_reducible apply o_assign); rfl; rfl; (with_reducible refine Tri.nil (Tri.thenN (Tri.seq (Tri.seq (Tri.region ?_))))); (with_reducible apply Tri.op); rfl; (with_reducible apply o_assign); rfl; rfl; (with_reducible refine Tri.nil (Tri.thenN (Tri.block ?_))))
  (with_reducible apply Tri.ownNil 76 2)
  ((with_reducible apply Tri.eqA (A := own 76 2 (.slice none 0 0) 0 []) (B := own 76 2 (.slice none 0 0) 0 (FL (FT.take 0)))); (case p => (first | ((repeat (first | with_reducible exact Pull.head | with_reducible apply Pull.tail)); done) | (repeat (first | exact Pull.head | apply Pull.tail)))); (case e => rfl))
  ((first | with_reducible apply Tri.loop (α := Σ' (i : Nat) (u : Value), i ≤ 4) (m := fun x => 4 - x.1) (Lx := fun x => [(3, .pointer (some ⟨b3, 0, none⟩)), (4, .pointer (some ⟨b4, 0, none⟩)), (6, .bool false), (7, .pointer (some ⟨b7, 0, none⟩)), (8, .pointer (some ⟨b8, 0, none⟩)), (9, .pointer (some ⟨d, 0, none⟩)), (11, .pointer (some ⟨b11, 0, none⟩)), (12, .int .i64 (e1 : Int)), (14, .int .i64 0), (15, x.2.1), (16, .bool (allB (FT.take x.1))), (17, .bool (noB (FT.take x.1))), (18, .int .i64 (x.1 : Int))]) (Hx := fun x => [own 76 2 x.2.1 x.1 (FL (FT.take x.1)), DSK d (wrS (DS.of V1) b).1, blk b11 63 tabL, blk b3 42 (spL a), blk b4 42 (spL b), blk b7 73 [Value.bool c0, .bool c1, .bool c2, .bool c3], blk b8 71 [Value.int .u8 (k4.toNat : Int), .int .u8 (k5.toNat : Int), .int .u8 (k6.toNat : Int), .int .u8 (k7.toNat : Int)], Ex (hp w)]) (x0 := ⟨0, .slice none 0 0, Nat.zero_le _⟩) | with_reducible apply TriR.loop (α := Σ' (i : Nat) (u : Value), i ≤ 4) (m := fun x => 4 - x.1) (Lx := fun x => [(3, .pointer (some ⟨b3, 0, none⟩)), (4, .pointer (some ⟨b4, 0, none⟩)), (6, .bool false), (7, .pointer (some ⟨b7, 0, none⟩)), (8, .pointer (some ⟨b8, 0, none⟩)), (9, .pointer (some ⟨d, 0, none⟩)), (11, .pointer (some ⟨b11, 0, none⟩)), (12, .int .i64 (e1 : Int)), (14, .int .i64 0), (15, x.2.1), (16, .bool (allB (FT.take x.1))), (17, .bool (noB (FT.take x.1))), (18, .int .i64 (x.1 : Int))]) (Hx := fun x => [own 76 2 x.2.1 x.1 (FL (FT.take x.1)), DSK d (wrS (DS.of V1) b).1, blk b11 63 tabL, blk b3 42 (spL a), blk b4 42 (spL b), blk b7 73 [Value.bool c0, .bool c1, .bool c2, .bool c3], blk b8 71 [Value.int .u8 (k4.toNat : Int), .int .u8 (k5.toNat : Int), .int .u8 (k6.toNat : Int), .int .u8 (k7.toNat : Int)], Ex (hp w)]) (x0 := ⟨0, .slice none 0 0, Nat.zero_le _⟩)); (case hL => ((try dsimp only); (repeat (first | exact trivial | refine And.intro (by rfl) ?_)))); (case hH => ((try dsimp only); apply St.all; (repeat (first | exact Pulls.nil | (apply Pulls.cons; (case a => (first | ((repeat (first | with_reducible exact Gv.Pull.head | with_reducible apply Gv.Pull.tail)); done) | (repeat (first | exact Gv.Pull.head | apply Gv.Pull.tail)))))))))); (rintro ⟨i, u, hi⟩ mx hmx; (try dsimp only at hmx ⊢))
  ((with_reducible refine Tri.seq (Tri.seq (Tri.region ?_))); (with_reducible apply Tri.op); rfl; (with_reducible apply o_move); rfl; rfl; (with_reducible apply Tri.op); rfl; (with_reducible apply o_lss); rfl; rfl; rfl; (with_reducible refine Tri.nil (Tri.thenN ?_)))
  ((first | with_reducible apply Tri.condD | with_reducible apply TriR.condD); (case hc => rfl); (all_goals intro hc))
  · have hi4 : i < 4 := by omega
    have hi3 : i + 1 ≤ 4 := by omega
    obtain ⟨c, kk, hv1, hv2, hv3⟩ := hL i hi4
    have hA1 := allB_snoc (FT.take i) c kk
    have hN1 := noB_snoc (FT.take i) c kk
    rw [← hv3] at hA1 hN1
    ((with_reducible refine Tri.skip (Tri.thenN (Tri.seq (Tri.block (Tri.seq ?_))))))
    ((first | with_reducible apply Tri.mix [blk b7 73 [Value.bool c0, .bool c1, .bool c2, .bool c3], blk b8 71 [Value.int .u8 (k4.toNat : Int), .int .u8 (k5.toNat : Int), .int .u8 (k6.toNat : Int), .int .u8 (k7.toNat : Int)]] | ((with_reducible apply TriR.mix [blk b7 73 [Value.bool c0, .bool c1, .bool c2, .bool c3], blk b8 71 [Value.int .u8 (k4.toNat : Int), .int .u8 (k5.toNat : Int), .int .u8 (k6.toNat : Int), .int .u8 (k7.toNat : Int)]]); (case hnd => rfl))); (case p => (repeat (first | exact Pulls.nil | (apply Pulls.cons; (case a => (first | ((repeat (first | with_reducible exact Gv.Pull.head | with_reducible apply Gv.Pull.tail)); done) | (repeat (first | exact Gv.Pull.head | apply Gv.Pull.tail)))))))); (dsimp only [List.length]))
    ((first | ((with_reducible apply TriM.q 0); rfl; rfl) | ((with_reducible apply TriM.qYes 0); rfl; rfl; rfl; with_reducible rfl)); kernel_rfl; rfl; rfl; (intro F K hK; (with_reducible apply o_move); rfl; rfl; exact hK); (first | ((with_reducible apply TriM.q 1); rfl; rfl) | ((with_reducible apply TriM.qYes 1); rfl; rfl; rfl; with_reducible rfl)); kernel_rfl; rfl; rfl; (intro F K hK; (with_reducible apply o_move); rfl; rfl; exact hK))
    ((first | ((with_reducible apply TriM.q 2); (case ho => rfl); (case hg => rfl)) | ((with_reducible apply TriM.qYes 2); (case ho => rfl); (case hg => rfl); (case hyl => rfl); (case hb => with_reducible rfl))); (case hB => kernel_rfl); (case hd => rfl); (case hn => rfl); (case h => (intro F K hK; ((with_reducible apply o_ixArr (j := i)); (case hx => rfl); (case hy => rfl); (case hj => rfl); (case hlt => omega); (case hn => rfl)); exact hK)))
    ((first | ((with_reducible apply TriM.q 3); (case ho => rfl); (case hg => rfl)) | ((with_reducible apply TriM.qYes 3); (case ho => rfl); (case hg => rfl); (case hyl => rfl); (case hb => with_reducible rfl))); (case hB => kernel_rfl); (case hd => rfl); (case hn => rfl); (case h => (intro F K hK; ((with_reducible apply o_load); (case hx => rfl); (case p => (first | ((repeat (first | with_reducible exact Pull.head | with_reducible apply Pull.tail)); done) | (repeat (first | exact Pull.head | apply Pull.tail)))); (case hv => exact hv1); (case hn => rfl)); exact hK)))
    ((first | ((with_reducible apply TriM.q 4); rfl; rfl) | ((with_reducible apply TriM.qYes 4); rfl; rfl; rfl; with_reducible rfl)); kernel_rfl; rfl; rfl; (intro F K hK; (with_reducible apply o_move); rfl; rfl; exact hK))
    ((first | ((with_reducible apply TriM.q 5); (case ho => rfl); (case hg => rfl)) | ((with_reducible apply TriM.qYes 5); (case ho => rfl); (case hg => rfl); (case hyl => rfl); (case hb => with_reducible rfl))); (case hB => kernel_rfl); (case hd => rfl); (case hn => rfl); (case h => (intro F K hK; ((with_reducible apply o_ixArr (j := i)); (case hx => rfl); (case hy => rfl); (case hj => rfl); (case hlt => omega); (case hn => rfl)); exact hK)))
    ((first | ((with_reducible apply TriM.q 6); (case ho => rfl); (case hg => rfl)) | ((with_reducible apply TriM.qYes 6); (case ho => rfl); (case hg => rfl); (case hyl => rfl); (case hb => with_reducible rfl))); (case hB => kernel_rfl); (case hd => rfl); (case hn => rfl); (case h => (intro F K hK; ((with_reducible apply o_load); (case hx => rfl); (case p => (first | ((repeat (first | with_reducible exact Pull.head | with_reducible apply Pull.tail)); done) | (repeat (first | exact Pull.head | apply Pull.tail)))); (case hv => exact hv2); (case hn => rfl)); exact hK)))
    ((first | ((with_reducible apply TriM.q 7); (case ho => rfl); (case hg => rfl)) | ((with_reducible apply TriM.qYes 7); (case ho => rfl); (case hg => rfl); (case hyl => rfl); (case hb => with_reducible rfl))); (case hB => kernel_rfl); (case hd => rfl); (case hn => rfl); (case h => (intro F K hK; ((with_reducible apply o_build (ys := [.bool c, .int .u8 (kk.toNat : Int)])); (case hp => (repeat first | exact pev.nil | (apply pev.cons; case a => rfl))); (case hf => rfl); (case hn => rfl)); exact hK)))
    ((with_reducible apply TriM.a 8); (case ho => rfl); (case hg => rfl); (case hr => kernel_rfl); (try dsimp only [List.cons_append, List.nil_append]))
    ((with_reducible apply o_litSl (ys := [.bool c, .int .u8 (kk.toNat : Int)])); (case hp => (repeat first | exact pev.nil | (apply pev.cons; case a => rfl))); (case hm => rfl); (case hf => rfl); (case hn => rfl); intro vl)
    ((with_reducible apply TriM.back); (case p => (repeat (first | exact Pulls.nil | (apply Pulls.cons; (case a => (first | ((repeat (first | with_reducible exact Gv.Pull.head | with_reducible apply Gv.Pull.tail)); done) | (repeat (first | exact Gv.Pull.head | apply Gv.Pull.tail)))))))))
    ((with_reducible apply TriM.a 9); (case ho => rfl); (case hg => rfl); (case hr => kernel_rfl); (try dsimp only [List.cons_append, List.nil_append]))
    ((with_reducible apply o_append); (case hx => rfl); (case hy => rfl); (case p => (first | ((repeat (first | with_reducible exact Pull.head | with_reducible apply Pull.tail)); done) | (repeat (first | exact Pull.head | apply Pull.tail)))); (case hr => exact rdw_own (v := vl) (by (first | ((repeat (first | with_reducible exact Pull.head | with_reducible apply Pull.tail)); done) | (repeat (first | exact Pull.head | apply Pull.tail))))); (case hl => rfl); (case h1 => (intro y hy; simp at hy; rcases hy with rfl | rfl <;> rfl)); (case hb => omega); (case hn => rfl))
    intro u'
    ((with_reducible apply TriM.back); (case p => (repeat (first | exact Pulls.nil | (apply Pulls.cons; (case a => (first | ((repeat (first | with_reducible exact Gv.Pull.head | with_reducible apply Gv.Pull.tail)); done) | (repeat (first | exact Gv.Pull.head | apply Gv.Pull.tail)))))))))
    ((first | ((with_reducible apply TriM.q 10); rfl; rfl) | ((with_reducible apply TriM.qYes 10); rfl; rfl; rfl; with_reducible rfl)); kernel_rfl; rfl; rfl; (intro F K hK; (with_reducible apply o_assign); rfl; rfl; exact hK))
    ((with_reducible apply TriM.nil); (case hr => kernel_rfl); (try dsimp only [List.cons_append, List.nil_append]))
    ((with_reducible apply Tri.eqA (A := own 76 2 u' _ _) (B := own 76 2 u' (i + 1) (FL (FT.take (i + 1))))); (case p => (first | ((repeat (first | with_reducible exact Pull.head | with_reducible apply Pull.tail)); done) | (repeat (first | exact Pull.head | apply Pull.tail)))); (case e => (rw [hv3, FL_append]; rfl)))
    cases c
    · cases hA : allB (FT.take i)
      · cases hN : noB (FT.take i)
        · ((with_reducible refine Tri.thenN (Tri.seq (Tri.region ?_))); (with_reducible apply Tri.op); rfl; (with_reducible apply o_move); rfl; rfl; (with_reducible apply Tri.op); rfl; (with_reducible apply o_move); rfl; rfl; (iterate 3 (with_reducible apply Tri.opNo (c := false)); (iterate 6 rfl)); (with_reducible apply Tri.op); rfl; (with_reducible apply o_pickF); (iterate 4 rfl); (with_reducible apply Tri.op); rfl; (with_reducible apply o_move); rfl; rfl; (iterate 4 (with_reducible apply Tri.opNo (c := false)); (iterate 6 rfl)); (with_reducible apply Tri.op); rfl; (with_reducible apply o_pickF); (iterate 4 rfl); (with_reducible apply Tri.op); rfl; (with_reducible apply o_assign); rfl; rfl; (with_reducible refine Tri.nil (Tri.thenN (Tri.region ?_))); (with_reducible apply Tri.op); rfl; (with_reducible apply o_move); rfl; rfl; (with_reducible apply Tri.op); rfl; (with_reducible apply o_move); rfl; rfl; (iterate 5 (with_reducible apply Tri.opNo (c := false)); (iterate 6 rfl)); (iterate 4 (with_reducible apply Tri.opNoU); (iterate 4 rfl)); (with_reducible apply Tri.opNo (c := false)); (iterate 6 rfl); (with_reducible apply Tri.op); rfl; (with_reducible apply o_pickF); (iterate 4 rfl); (with_reducible apply Tri.op); rfl; (with_reducible apply o_assign); rfl; rfl; (with_reducible refine Tri.nil (Tri.blockN (Tri.thenN (Tri.region ?_)))); (with_reducible apply Tri.op); rfl; (with_reducible apply o_move); rfl; rfl; (with_reducible apply Tri.op); rfl; (with_reducible apply o_add64); rfl; rfl; rfl; (omega); (with_reducible apply Tri.op); rfl; (with_reducible apply o_assign); rfl; rfl; (with_reducible refine Tri.nil (Tri.thenN ?_)))
          ((with_reducible apply Tri.setb 16 ((allB (FT.take (i + 1))))); (case h => rfl); (case hi => (rw [hA1, hA]; rfl)))
          ((with_reducible apply Tri.setb 17 ((noB (FT.take (i + 1))))); (case h => rfl); (case hi => (rw [hN1, hN]; rfl)))
          ((with_reducible apply Tri.seti 18 (((i + 1 : Nat) : Int))); (case h => rfl); (case hi => omega))
          ((with_reducible apply Tri.again (y := ⟨i + 1, u', hi3⟩)); (case p => ((try dsimp only); (repeat (first | exact Pulls.nil | (apply Pulls.cons; (case a => (first | ((repeat (first | with_reducible exact Gv.Pull.head | with_reducible apply Gv.Pull.tail)); done) | (repeat (first | exact Gv.Pull.head | apply Gv.Pull.tail))))))))); (case hm => ((try dsimp only); omega)); (try dsimp only))
          (repeat (first | exact trivial | refine And.intro (by rfl) ?_))
        · ((with_reducible refine Tri.thenN (Tri.seq (Tri.region ?_))); (with_reducible apply Tri.op); rfl; (with_reducible apply o_move); rfl; rfl; (with_reducible apply Tri.op); rfl; (with_reducible apply o_move); rfl; rfl; (iterate 3 (with_reducible apply Tri.opNo (c := false)); (iterate 6 rfl)); (with_reducible apply Tri.op); rfl; (with_reducible apply o_pickF); (iterate 4 rfl); (with_reducible apply Tri.op); rfl; (with_reducible apply o_move); rfl; rfl; (iterate 4 (with_reducible apply Tri.opNo (c := false)); (iterate 6 rfl)); (with_reducible apply Tri.op); rfl; (with_reducible apply o_pickF); (iterate 4 rfl); (with_reducible apply Tri.op); rfl; (with_reducible apply o_assign); rfl; rfl; (with_reducible refine Tri.nil (Tri.thenN (Tri.region ?_))); (with_reducible apply Tri.op); rfl; (with_reducible apply o_move); rfl; rfl; (with_reducible apply Tri.op); rfl; (with_reducible apply o_move); rfl; rfl; (with_reducible apply Tri.opYes); rfl; rfl; rfl; (with_reducible apply o_move); rfl; rfl; (with_reducible apply Tri.opYes); rfl; rfl; rfl; (with_reducible apply o_ixArr); rfl; rfl; (first | rfl | exact (Int.toNat_of_nonneg (by omega)).symm); (first | omega | assumption); rfl; (with_reducible apply Tri.opYes); rfl; rfl; rfl)
          ((with_reducible apply o_load); (case hx => rfl); (case p => (first | ((repeat (first | with_reducible exact Pull.head | with_reducible apply Pull.tail)); done) | (repeat (first | exact Pull.head | apply Pull.tail)))); (case hv => exact hv1); (case hn => rfl))
          ((with_reducible apply Tri.opYes); rfl; rfl; rfl; (with_reducible apply o_not); rfl; rfl; (with_reducible apply Tri.opYes); rfl; rfl; rfl; (with_reducible apply o_move); rfl; rfl)
          ((with_reducible apply Tri.setb 131 (true)); (case h => rfl); (case hi => rfl))
          ((iterate 4 (with_reducible apply Tri.opNo (c := true)); (iterate 6 rfl)); (with_reducible apply Tri.opYes); rfl; rfl; rfl; (with_reducible apply o_pickT); (iterate 4 rfl); (with_reducible apply Tri.op); rfl; (with_reducible apply o_pickT); (iterate 4 rfl); (with_reducible apply Tri.op); rfl; (with_reducible apply o_assign); rfl; rfl; (with_reducible refine Tri.nil (Tri.blockN (Tri.thenN (Tri.region ?_)))); (with_reducible apply Tri.op); rfl; (with_reducible apply o_move); rfl; rfl; (with_reducible apply Tri.op); rfl; (with_reducible apply o_add64); rfl; rfl; rfl; (omega); (with_reducible apply Tri.op); rfl; (with_reducible apply o_assign); rfl; rfl; (with_reducible refine Tri.nil (Tri.thenN ?_)))
          ((with_reducible apply Tri.setb 16 ((allB (FT.take (i + 1))))); (case h => rfl); (case hi => (rw [hA1, hA]; rfl)))
          ((with_reducible apply Tri.setb 17 ((noB (FT.take (i + 1))))); (case h => rfl); (case hi => (rw [hN1, hN]; rfl)))
          ((with_reducible apply Tri.seti 18 (((i + 1 : Nat) : Int))); (case h => rfl); (case hi => omega))
          ((with_reducible apply Tri.again (y := ⟨i + 1, u', hi3⟩)); (case p => ((try dsimp only); (repeat (first | exact Pulls.nil | (apply Pulls.cons; (case a => (first | ((repeat (first | with_reducible exact Gv.Pull.head | with_reducible apply Gv.Pull.tail)); done) | (repeat (first | exact Gv.Pull.head | apply Gv.Pull.tail))))))))); (case hm => ((try dsimp only); omega)); (try dsimp only))
          (repeat (first | exact trivial | refine And.intro (by rfl) ?_))
      · cases hN : noB (FT.take i)
        · ((with_reducible refine Tri.thenN (Tri.seq (Tri.region ?_))); (with_reducible apply Tri.op); rfl; (with_reducible apply o_move); rfl; rfl; (with_reducible apply Tri.op); rfl; (with_reducible apply o_move); rfl; rfl; (with_reducible apply Tri.opYes); rfl; rfl; rfl; (with_reducible apply o_move); rfl; rfl; (with_reducible apply Tri.opYes); rfl; rfl; rfl; (with_reducible apply o_ixArr); rfl; rfl; (first | rfl | exact (Int.toNat_of_nonneg (by omega)).symm); (first | omega | assumption); rfl; (with_reducible apply Tri.opYes); rfl; rfl; rfl)
          ((with_reducible apply o_load); (case hx => rfl); (case p => (first | ((repeat (first | with_reducible exact Pull.head | with_reducible apply Pull.tail)); done) | (repeat (first | exact Pull.head | apply Pull.tail)))); (case hv => exact hv1); (case hn => rfl))
          ((with_reducible apply Tri.op); rfl; (with_reducible apply o_pickT); (iterate 4 rfl); (with_reducible apply Tri.op); rfl; (with_reducible apply o_move); rfl; rfl; (iterate 4 (with_reducible apply Tri.opNo (c := false)); (iterate 6 rfl)); (with_reducible apply Tri.op); rfl; (with_reducible apply o_pickF); (iterate 4 rfl); (with_reducible apply Tri.op); rfl; (with_reducible apply o_assign); rfl; rfl; (with_reducible refine Tri.nil (Tri.thenN (Tri.region ?_))); (with_reducible apply Tri.op); rfl; (with_reducible apply o_move); rfl; rfl; (with_reducible apply Tri.op); rfl; (with_reducible apply o_move); rfl; rfl; (iterate 5 (with_reducible apply Tri.opNo (c := false)); (iterate 6 rfl)); (iterate 4 (with_reducible apply Tri.opNoU); (iterate 4 rfl)); (with_reducible apply Tri.opNo (c := false)); (iterate 6 rfl); (with_reducible apply Tri.op); rfl; (with_reducible apply o_pickF); (iterate 4 rfl); (with_reducible apply Tri.op); rfl; (with_reducible apply o_assign); rfl; rfl; (with_reducible refine Tri.nil (Tri.blockN (Tri.thenN (Tri.region ?_)))); (with_reducible apply Tri.op); rfl; (with_reducible apply o_move); rfl; rfl; (with_reducible apply Tri.op); rfl; (with_reducible apply o_add64); rfl; rfl; rfl; (omega); (with_reducible apply Tri.op); rfl; (with_reducible apply o_assign); rfl; rfl; (with_reducible refine Tri.nil (Tri.thenN ?_)))
          ((with_reducible apply Tri.setb 16 ((allB (FT.take (i + 1))))); (case h => rfl); (case hi => (rw [hA1, hA]; rfl)))
          ((with_reducible apply Tri.setb 17 ((noB (FT.take (i + 1))))); (case h => rfl); (case hi => (rw [hN1, hN]; rfl)))
          ((with_reducible apply Tri.seti 18 (((i + 1 : Nat) : Int))); (case h => rfl); (case hi => omega))
          ((with_reducible apply Tri.again (y := ⟨i + 1, u', hi3⟩)); (case p => ((try dsimp only); (repeat (first | exact Pulls.nil | (apply Pulls.cons; (case a => (first | ((repeat (first | with_reducible exact Gv.Pull.head | with_reducible apply Gv.Pull.tail)); done) | (repeat (first | exact Gv.Pull.head | apply Gv.Pull.tail))))))))); (case hm => ((try dsimp only); omega)); (try dsimp only))
          (repeat (first | exact trivial | refine And.intro (by rfl) ?_))
        · ((with_reducible refine Tri.thenN (Tri.seq (Tri.region ?_))); (with_reducible apply Tri.op); rfl; (with_reducible apply o_move); rfl; rfl; (with_reducible apply Tri.op); rfl; (with_reducible apply o_move); rfl; rfl; (with_reducible apply Tri.opYes); rfl; rfl; rfl; (with_reducible apply o_move); rfl; rfl; (with_reducible apply Tri.opYes); rfl; rfl; rfl; (with_reducible apply o_ixArr); rfl; rfl; (first | rfl | exact (Int.toNat_of_nonneg (by omega)).symm); (first | omega | assumption); rfl; (with_reducible apply Tri.opYes); rfl; rfl; rfl)
          ((with_reducible apply o_load); (case hx => rfl); (case p => (first | ((repeat (first | with_reducible exact Pull.head | with_reducible apply Pull.tail)); done) | (repeat (first | exact Pull.head | apply Pull.tail)))); (case hv => exact hv1); (case hn => rfl))
          ((with_reducible apply Tri.op); rfl; (with_reducible apply o_pickT); (iterate 4 rfl); (with_reducible apply Tri.op); rfl; (with_reducible apply o_move); rfl; rfl; (iterate 4 (with_reducible apply Tri.opNo (c := false)); (iterate 6 rfl)); (with_reducible apply Tri.op); rfl; (with_reducible apply o_pickF); (iterate 4 rfl); (with_reducible apply Tri.op); rfl; (with_reducible apply o_assign); rfl; rfl; (with_reducible refine Tri.nil (Tri.thenN (Tri.region ?_))); (with_reducible apply Tri.op); rfl; (with_reducible apply o_move); rfl; rfl; (with_reducible apply Tri.op); rfl; (with_reducible apply o_move); rfl; rfl; (with_reducible apply Tri.opYes); rfl; rfl; rfl; (with_reducible apply o_move); rfl; rfl; (with_reducible apply Tri.opYes); rfl; rfl; rfl; (with_reducible apply o_ixArr); rfl; rfl; (first | rfl | exact (Int.toNat_of_nonneg (by omega)).symm); (first | omega | assumption); rfl; (with_reducible apply Tri.opYes); rfl; rfl; rfl)
          ((with_reducible apply o_load); (case hx => rfl); (case p => (first | ((repeat (first | with_reducible exact Pull.head | with_reducible apply Pull.tail)); done) | (repeat (first | exact Pull.head | apply Pull.tail)))); (case hv => exact hv1); (case hn => rfl))
          ((with_reducible apply Tri.opYes); rfl; rfl; rfl; (with_reducible apply o_not); rfl; rfl; (with_reducible apply Tri.opYes); rfl; rfl; rfl; (with_reducible apply o_move); rfl; rfl)
          ((with_reducible apply Tri.setb 131 (true)); (case h => rfl); (case hi => rfl))
          ((iterate 4 (with_reducible apply Tri.opNo (c := true)); (iterate 6 rfl)); (with_reducible apply Tri.opYes); rfl; rfl; rfl; (with_reducible apply o_pickT); (iterate 4 rfl); (with_reducible apply Tri.op); rfl; (with_reducible apply o_pickT); (iterate 4 rfl); (with_reducible apply Tri.op); rfl; (with_reducible apply o_assign); rfl; rfl; (with_reducible refine Tri.nil (Tri.blockN (Tri.thenN (Tri.region ?_)))); (with_reducible apply Tri.op); rfl; (with_reducible apply o_move); rfl; rfl; (with_reducible apply Tri.op); rfl; (with_reducible apply o_add64); rfl; rfl; rfl; (omega); (with_reducible apply Tri.op); rfl; (with_reducible apply o_assign); rfl; rfl; (with_reducible refine Tri.nil (Tri.thenN ?_)))
          ((with_reducible apply Tri.setb 16 ((allB (FT.take (i + 1))))); (case h => rfl); (case hi => (rw [hA1, hA]; rfl)))
          ((with_reducible apply Tri.setb 17 ((noB (FT.take (i + 1))))); (case h => rfl); (case hi => (rw [hN1, hN]; rfl)))
          ((with_reducible apply Tri.seti 18 (((i + 1 : Nat) : Int))); (case h => rfl); (case hi => omega))
          ((with_reducible apply Tri.again (y := ⟨i + 1, u', hi3⟩)); (case p => ((try dsimp only); (repeat (first | exact Pulls.nil | (apply Pulls.cons; (case a => (first | ((repeat (first | with_reducible exact Gv.Pull.head | with_reducible apply Gv.Pull.tail)); done) | (repeat (first | exact Gv.Pull.head | apply Gv.Pull.tail))))))))); (case hm => ((try dsimp only); omega)); (try dsimp only))
          (repeat (first | exact trivial | refine And.intro (by rfl) ?_))
    · cases hA : allB (FT.take i)
      · cases hN : noB (FT.take i)
        · ((with_reducible refine Tri.thenN (Tri.seq (Tri.region ?_))); (with_reducible apply Tri.op); rfl; (with_reducible apply o_move); rfl; rfl; (with_reducible apply Tri.op); rfl; (with_reducible apply o_move); rfl; rfl; (iterate 3 (with_reducible apply Tri.opNo (c := false)); (iterate 6 rfl)); (with_reducible apply Tri.op); rfl; (with_reducible apply o_pickF); (iterate 4 rfl); (with_reducible apply Tri.op); rfl; (with_reducible apply o_move); rfl; rfl; (iterate 4 (with_reducible apply Tri.opNo (c := false)); (iterate 6 rfl)); (with_reducible apply Tri.op); rfl; (with_reducible apply o_pickF); (iterate 4 rfl); (with_reducible apply Tri.op); rfl; (with_reducible apply o_assign); rfl; rfl; (with_reducible refine Tri.nil (Tri.thenN (Tri.region ?_))); (with_reducible apply Tri.op); rfl; (with_reducible apply o_move); rfl; rfl; (with_reducible apply Tri.op); rfl; (with_reducible apply o_move); rfl; rfl; (iterate 5 (with_reducible apply Tri.opNo (c := false)); (iterate 6 rfl)); (iterate 4 (with_reducible apply Tri.opNoU); (iterate 4 rfl)); (with_reducible apply Tri.opNo (c := false)); (iterate 6 rfl); (with_reducible apply Tri.op); rfl; (with_reducible apply o_pickF); (iterate 4 rfl); (with_reducible apply Tri.op); rfl; (with_reducible apply o_assign); rfl; rfl; (with_reducible refine Tri.nil (Tri.blockN (Tri.thenN (Tri.region ?_)))); (with_reducible apply Tri.op); rfl; (with_reducible apply o_move); rfl; rfl; (with_reducible apply Tri.op); rfl; (with_reducible apply o_add64); rfl; rfl; rfl; (omega); (with_reducible apply Tri.op); rfl; (with_reducible apply o_assign); rfl; rfl; (with_reducible refine Tri.nil (Tri.thenN ?_)))
          ((with_reducible apply Tri.setb 16 ((allB (FT.take (i + 1))))); (case h => rfl); (case hi => (rw [hA1, hA]; rfl)))
          ((with_reducible apply Tri.setb 17 ((noB (FT.take (i + 1))))); (case h => rfl); (case hi => (rw [hN1, hN]; rfl)))
          ((with_reducible apply Tri.seti 18 (((i + 1 : Nat) : Int))); (case h => rfl); (case hi => omega))
          ((with_reducible apply Tri.again (y := ⟨i + 1, u', hi3⟩)); (case p => ((try dsimp only); (repeat (first | exact Pulls.nil | (apply Pulls.cons; (case a => (first | ((repeat (first | with_reducible exact Gv.Pull.head | with_reducible apply Gv.Pull.tail)); done) | (repeat (first | exact Gv.Pull.head | apply Gv.Pull.tail))))))))); (case hm => ((try dsimp only); omega)); (try dsimp only))
          (repeat (first | exact trivial | refine And.intro (by rfl) ?_))
        · ((with_reducible refine Tri.thenN (Tri.seq (Tri.region ?_))); (with_reducible apply Tri.op); rfl; (with_reducible apply o_move); rfl; rfl; (with_reducible apply Tri.op); rfl; (with_reducible apply o_move); rfl; rfl; (iterate 3 (with_reducible apply Tri.opNo (c := false)); (iterate 6 rfl)); (with_reducible apply Tri.op); rfl; (with_reducible apply o_pickF); (iterate 4 rfl); (with_reducible apply Tri.op); rfl; (with_reducible apply o_move); rfl; rfl; (iterate 4 (with_reducible apply Tri.opNo (c := false)); (iterate 6 rfl)); (with_reducible apply Tri.op); rfl; (with_reducible apply o_pickF); (iterate 4 rfl); (with_reducible apply Tri.op); rfl; (with_reducible apply o_assign); rfl; rfl; (with_reducible refine Tri.nil (Tri.thenN (Tri.region ?_))); (with_reducible apply Tri.op); rfl; (with_reducible apply o_move); rfl; rfl; (with_reducible apply Tri.op); rfl; (with_reducible apply o_move); rfl; rfl; (with_reducible apply Tri.opYes); rfl; rfl; rfl; (with_reducible apply o_move); rfl; rfl; (with_reducible apply Tri.opYes); rfl; rfl; rfl; (with_reducible apply o_ixArr); rfl; rfl; (first | rfl | exact (Int.toNat_of_nonneg (by omega)).symm); (first | omega | assumption); rfl; (with_reducible apply Tri.opYes); rfl; rfl; rfl)
          ((with_reducible apply o_load); (case hx => rfl); (case p => (first | ((repeat (first | with_reducible exact Pull.head | with_reducible apply Pull.tail)); done) | (repeat (first | exact Pull.head | apply Pull.tail)))); (case hv => exact hv1); (case hn => rfl))
          ((with_reducible apply Tri.opYes); rfl; rfl; rfl; (with_reducible apply o_not); rfl; rfl; (with_reducible apply Tri.opYes); rfl; rfl; rfl; (with_reducible apply o_move); rfl; rfl)
          ((with_reducible apply Tri.setb 131 (false)); (case h => rfl); (case hi => rfl))
          ((with_reducible apply Tri.opYes); rfl; rfl; rfl; (with_reducible apply o_move); rfl; rfl; (with_reducible apply Tri.opYes); rfl; rfl; rfl; (with_reducible apply o_ixArr); rfl; rfl; (first | rfl | exact (Int.toNat_of_nonneg (by omega)).symm); (first | omega | assumption); rfl; (with_reducible apply Tri.opYes); rfl; rfl; rfl)
          ((with_reducible apply o_load); (case hx => rfl); (case p => (first | ((repeat (first | with_reducible exact Pull.head | with_reducible apply Pull.tail)); done) | (repeat (first | exact Pull.head | apply Pull.tail)))); (case hv => exact hv2); (case hn => rfl))
          ((with_reducible apply Tri.opYes); rfl; rfl; rfl; (with_reducible apply o_eql); rfl; rfl; rfl; (with_reducible apply Tri.opYes); rfl; rfl; rfl; (with_reducible apply o_pickF); (iterate 4 rfl); (with_reducible apply Tri.op); rfl; (with_reducible apply o_pickT); (iterate 4 rfl); (with_reducible apply Tri.op); rfl; (with_reducible apply o_assign); rfl; rfl; (with_reducible refine Tri.nil (Tri.blockN (Tri.thenN (Tri.region ?_)))); (with_reducible apply Tri.op); rfl; (with_reducible apply o_move); rfl; rfl; (with_reducible apply Tri.op); rfl; (with_reducible apply o_add64); rfl; rfl; rfl; (omega); (with_reducible apply Tri.op); rfl; (with_reducible apply o_assign); rfl; rfl; (with_reducible refine Tri.nil (Tri.thenN ?_)))
          ((with_reducible apply Tri.setb 16 ((allB (FT.take (i + 1))))); (case h => rfl); (case hi => (rw [hA1, hA]; rfl)))
          ((with_reducible apply Tri.setb 17 ((noB (FT.take (i + 1))))); (case h => rfl); (case hi => (rw [hN1, hN]; rfl)))
          ((with_reducible apply Tri.seti 18 (((i + 1 : Nat) : Int))); (case h => rfl); (case hi => omega))
          ((with_reducible apply Tri.again (y := ⟨i + 1, u', hi3⟩)); (case p => ((try dsimp only); (repeat (first | exact Pulls.nil | (apply Pulls.cons; (case a => (first | ((repeat (first | with_reducible exact Gv.Pull.head | with_reducible apply Gv.Pull.tail)); done) | (repeat (first | exact Gv.Pull.head | apply Gv.Pull.tail))))))))); (case hm => ((try dsimp only); omega)); (try dsimp only))
          (repeat (first | exact trivial | refine And.intro (by rfl) ?_))
      · cases hN : noB (FT.take i)
        · ((with_reducible refine Tri.thenN (Tri.seq (Tri.region ?_))); (with_reducible apply Tri.op); rfl; (with_reducible apply o_move); rfl; rfl; (with_reducible apply Tri.op); rfl; (with_reducible apply o_move); rfl; rfl; (with_reducible apply Tri.opYes); rfl; rfl; rfl; (with_reducible apply o_move); rfl; rfl; (with_reducible apply Tri.opYes); rfl; rfl; rfl; (with_reducible apply o_ixArr); rfl; rfl; (first | rfl | exact (Int.toNat_of_nonneg (by omega)).symm); (first | omega | assumption); rfl; (with_reducible apply Tri.opYes); rfl; rfl; rfl)
          ((with_reducible apply o_load); (case hx => rfl); (case p => (first | ((repeat (first | with_reducible exact Pull.head | with_reducible apply Pull.tail)); done) | (repeat (first | exact Pull.head | apply Pull.tail)))); (case hv => exact hv1); (case hn => rfl))
          ((with_reducible apply Tri.op); rfl; (with_reducible apply o_pickT); (iterate 4 rfl); (with_reducible apply Tri.op); rfl; (with_reducible apply o_move); rfl; rfl; (with_reducible apply Tri.opYes); rfl; rfl; rfl; (with_reducible apply o_move); rfl; rfl; (with_reducible apply Tri.opYes); rfl; rfl; rfl; (with_reducible apply o_ixArr); rfl; rfl; (first | rfl | exact (Int.toNat_of_nonneg (by omega)).symm); (first | omega | assumption); rfl; (with_reducible apply Tri.opYes); rfl; rfl; rfl)
          ((with_reducible apply o_load); (case hx => rfl); (case p => (first | ((repeat (first | with_reducible exact Pull.head | with_reducible apply Pull.tail)); done) | (repeat (first | exact Pull.head | apply Pull.tail)))); (case hv => exact hv2); (case hn => rfl))
          ((with_reducible apply Tri.opYes); rfl; rfl; rfl; (with_reducible apply o_eql); rfl; rfl; rfl; (with_reducible apply Tri.op); rfl; (with_reducible apply o_pickT); (iterate 4 rfl); (with_reducible apply Tri.op); rfl; (with_reducible apply o_assign); rfl; rfl; (with_reducible refine Tri.nil (Tri.thenN (Tri.region ?_))); (with_reducible apply Tri.op); rfl; (with_reducible apply o_move); rfl; rfl; (with_reducible apply Tri.op); rfl; (with_reducible apply o_move); rfl; rfl; (iterate 5 (with_reducible apply Tri.opNo (c := false)); (iterate 6 rfl)); (iterate 4 (with_reducible apply Tri.opNoU); (iterate 4 rfl)); (with_reducible apply Tri.opNo (c := false)); (iterate 6 rfl); (with_reducible apply Tri.op); rfl; (with_reducible apply o_pickF); (iterate 4 rfl); (with_reducible apply Tri.op); rfl; (with_reducible apply o_assign); rfl; rfl; (with_reducible refine Tri.nil (Tri.blockN (Tri.thenN (Tri.region ?_)))); (with_reducible apply Tri.op); rfl; (with_reducible apply o_move); rfl; rfl; (with_reducible apply Tri.op); rfl; (with_reducible apply o_add64); rfl; rfl; rfl; (omega); (with_reducible apply Tri.op); rfl; (with_reducible apply o_assign); rfl; rfl; (with_reducible refine Tri.nil (Tri.thenN ?_)))
          ((with_reducible apply Tri.setb 16 ((allB (FT.take (i + 1))))); (case h => rfl); (case hi => (rw [hA1, hA]; rfl)))
          ((with_reducible apply Tri.setb 17 ((noB (FT.take (i + 1))))); (case h => rfl); (case hi => (rw [hN1, hN]; rfl)))
          ((with_reducible apply Tri.seti 18 (((i + 1 : Nat) : Int))); (case h => rfl); (case hi => omega))
          ((with_reducible apply Tri.again (y := ⟨i + 1, u', hi3⟩)); (case p => ((try dsimp only); (repeat (first | exact Pulls.nil | (apply Pulls.cons; (case a => (first | ((repeat (first | with_reducible exact Gv.Pull.head | with_reducible apply Gv.Pull.tail)); done) | (repeat (first | exact Gv.Pull.head | apply Gv.Pull.tail))))))))); (case hm => ((try dsimp only); omega)); (try dsimp only))
          (repeat (first | exact trivial | refine And.intro (by rfl) ?_))
        · ((with_reducible refine Tri.thenN (Tri.seq (Tri.region ?_))); (with_reducible apply Tri.op); rfl; (with_reducible apply o_move); rfl; rfl; (with_reducible apply Tri.op); rfl; (with_reducible apply o_move); rfl; rfl; (with_reducible apply Tri.opYes); rfl; rfl; rfl; (with_reducible apply o_move); rfl; rfl; (with_reducible apply Tri.opYes); rfl; rfl; rfl; (with_reducible apply o_ixArr); rfl; rfl; (first | rfl | exact (Int.toNat_of_nonneg (by omega)).symm); (first | omega | assumption); rfl; (with_reducible apply Tri.opYes); rfl; rfl; rfl)
          ((with_reducible apply o_load); (case hx => rfl); (case p => (first | ((repeat (first | with_reducible exact Pull.head | with_reducible apply Pull.tail)); done) | (repeat (first | exact Pull.head | apply Pull.tail)))); (case hv => exact hv1); (case hn => rfl))
          ((with_reducible apply Tri.op); rfl; (with_reducible apply o_pickT); (iterate 4 rfl); (with_reducible apply Tri.op); rfl; (with_reducible apply o_move); rfl; rfl; (with_reducible apply Tri.opYes); rfl; rfl; rfl; (with_reducible apply o_move); rfl; rfl; (with_reducible apply Tri.opYes); rfl; rfl; rfl; (with_reducible apply o_ixArr); rfl; rfl; (first | rfl | exact (Int.toNat_of_nonneg (by omega)).symm); (first | omega | assumption); rfl; (with_reducible apply Tri.opYes); rfl; rfl; rfl)
          ((with_reducible apply o_load); (case hx => rfl); (case p => (first | ((repeat (first | with_reducible exact Pull.head | with_reducible apply Pull.tail)); done) | (repeat (first | exact Pull.head | apply Pull.tail)))); (case hv => exact hv2); (case hn => rfl))
          ((with_reducible apply Tri.opYes); rfl; rfl; rfl; (with_reducible apply o_eql); rfl; rfl; rfl; (with_reducible apply Tri.op); rfl; (with_reducible apply o_pickT); (iterate 4 rfl); (with_reducible apply Tri.op); rfl; (with_reducible apply o_assign); rfl; rfl; (with_reducible refine Tri.nil (Tri.thenN (Tri.region ?_))); (with_reducible apply Tri.op); rfl; (with_reducible apply o_move); rfl; rfl; (with_reducible apply Tri.op); rfl; (with_reducible apply o_move); rfl; rfl; (with_reducible apply Tri.opYes); rfl; rfl; rfl; (with_reducible apply o_move); rfl; rfl; (with_reducible apply Tri.opYes); rfl; rfl; rfl; (with_reducible apply o_ixArr); rfl; rfl; (first | rfl | exact (Int.toNat_of_nonneg (by omega)).symm); (first | omega | assumption); rfl; (with_reducible apply Tri.opYes); rfl; rfl; rfl)
          ((with_reducible apply o_load); (case hx => rfl); (case p => (first | ((repeat (first | with_reducible exact Pull.head | with_reducible apply Pull.tail)); done) | (repeat (first | exact Pull.head | apply Pull.tail)))); (case hv => exact hv1); (case hn => rfl))
          ((with_reducible apply Tri.opYes); rfl; rfl; rfl; (with_reducible apply o_not); rfl; rfl; (with_reducible apply Tri.opYes); rfl; rfl; rfl; (with_reducible apply o_move); rfl; rfl)
          ((with_reducible apply Tri.setb 131 (false)); (case h => rfl); (case hi => rfl))
          ((with_reducible apply Tri.opYes); rfl; rfl; rfl; (with_reducible apply o_move); rfl; rfl; (with_reducible apply Tri.opYes); rfl; rfl; rfl; (with_reducible apply o_ixArr); rfl; rfl; (first | rfl | exact (Int.toNat_of_nonneg (by omega)).symm); (first | omega | assumption); rfl; (with_reducible apply Tri.opYes); rfl; rfl; rfl)
          ((with_reducible apply o_load); (case hx => rfl); (case p => (first | ((repeat (first | with_reducible exact Pull.head | with_reducible apply Pull.tail)); done) | (repeat (first | exact Pull.head | apply Pull.tail)))); (case hv => exact hv2); (case hn => rfl))
          ((with_reducible apply Tri.opYes); rfl; rfl; rfl; (with_reducible apply o_eql); rfl; rfl; rfl; (with_reducible apply Tri.opYes); rfl; rfl; rfl; (with_reducible apply o_pickF); (iterate 4 rfl); (with_reducible apply Tri.op); rfl; (with_reducible apply o_pickT); (iterate 4 rfl); (with_reducible apply Tri.op); rfl; (with_reducible apply o_assign); rfl; rfl; (with_reducible refine Tri.nil (Tri.blockN (Tri.thenN (Tri.region ?_)))); (with_reducible apply Tri.op); rfl; (with_reducible apply o_move); rfl; rfl; (with_reducible apply Tri.op); rfl; (with_reducible apply o_add64); rfl; rfl; rfl; (omega); (with_reducible apply Tri.op); rfl; (with_reducible apply o_assign); rfl; rfl; (with_reducible refine Tri.nil (Tri.thenN ?_)))
          ((with_reducible apply Tri.setb 16 ((allB (FT.take (i + 1))))); (case h => rfl); (case hi => (rw [hA1, hA]; rfl)))
          ((with_reducible apply Tri.setb 17 ((noB (FT.take (i + 1))))); (case h => rfl); (case hi => (rw [hN1, hN]; rfl)))
          ((with_reducible apply Tri.seti 18 (((i + 1 : Nat) : Int))); (case h => rfl); (case hi => omega))
          ((with_reducible apply Tri.again (y := ⟨i + 1, u', hi3⟩)); (case p => ((try dsimp only); (repeat (first | exact Pulls.nil | (apply Pulls.cons; (case a => (first | ((repeat (first | with_reducible exact Gv.Pull.head | with_reducible apply Gv.Pull.tail)); done) | (repeat (first | exact Gv.Pull.head | apply Gv.Pull.tail))))))))); (case hm => ((try dsimp only); omega)); (try dsimp only))
          (repeat (first | exact trivial | refine And.intro (by rfl) ?_))
  · obtain rfl : i = 4 := by omega
    have hFt : FT.take 4 = FT := List.take_of_length_le (by omega)
    rw [hFt]
    ((with_reducible refine Tri.exit (Tri.thenE (Tri.thenE (Tri.blockE (Tri.thenN (Tri.seq (Tri.region ?_))))))); (with_reducible apply Tri.op); rfl; (with_reducible apply o_move); rfl; rfl; (with_reducible apply Tri.op); rfl; (with_reducible apply o_move); rfl; rfl; (with_reducible apply Tri.op); rfl)
    have hA5' : 512 ≤ (DS.of V1).A.length := hA5
    have hwon := wrS_on hon2 hA5' qb
    have hwo := hwon.2.1.1
    have hW0 : (DS.of V1).W.length = 0 := rfl
    have hwl : (wrS (DS.of V1) b).1.W.length ≤ 1000000 := by have := hwon.2.2.2.2; omega
    have he1z : e1 = 0 := by rw [he1, if_pos qa]
    obtain ⟨hon3, hA3, hp3, hno3, hall3⟩ := tear hA5 hA6 qb FT hFl
    obtain ⟨pb, hpb⟩ : ∃ n, n = b.gen % 2 := ⟨_, rfl⟩
    have hpb2 : pb < 2 := by omega
    have hz1 : pgAt V1 (b.gen % 2) = List.replicate 256 0 := by
      have := (hp1 qa).2
      rwa [show 1 - a.gen % 2 = b.gen % 2 by omega] at this
    have hpa3 : pgAt ((wrS (DS.of V1) b).1.cr FT).V (a.gen % 2) = putP (pgS a) := by
      rw [show 1 - b.gen % 2 = a.gen % 2 by omega] at hp3
      rw [hp3]; exact (hp1 qa).1
    have hVA : ((wrS (DS.of V1) b).1.cr FT).V = ((wrS (DS.of V1) b).1.cr FT).A := rfl
    have hW3 : ((wrS (DS.of V1) b).1.cr FT).W.length ≤ 1000000 := Nat.zero_le _
    refine Tri.shut (e := 76) (size := 2) (v := u) (by (first | ((repeat (first | with_reducible exact Pull.head | with_reducible apply Pull.tail)); done) | (repeat (first | exact Pull.head | apply Pull.tail)))) (fun h2 ho2 => ?_)
    have hr2 : Rd h2 u FT.length (FL FT) := by rw [hFl]; exact own_Rd ho2
    ((with_reducible apply o_callS (hs := disk_CrashD d (wrS (DS.of V1) b).1 u FT h2 hr2 hwo hwl)); (case hargs => (repeat first | exact evs.nil | (apply evs.cons; case a => rfl))); (case p => (repeat (first | exact Pulls.nil | (apply Pulls.cons; (case a => (first | ((repeat (first | with_reducible exact Gv.Pull.head | with_reducible apply Gv.Pull.tail)); done) | (repeat (first | exact Gv.Pull.head | apply Gv.Pull.tail)))))))); (case hn => rfl))
    rintro r6 H6 rfl
    obtain ⟨S3, hS3⟩ : ∃ S, S = (wrS (DS.of V1) b).1.cr FT := ⟨_, rfl⟩
    rw [← hS3] at hon3 hA3 hno3 hall3 hpa3 hVA hW3 ⊢
    have hok3 := hon3.1
    have hA4 : S3.A.length = 4096 := by rw [hA3, hV1l]
    (try dsimp only [List.cons_append, List.nil_append])
    ((with_reducible refine Tri.nil (Tri.thenN (Tri.seq (Tri.region ?_)))); (with_reducible apply Tri.op); rfl; (with_reducible apply o_fieldAddr); rfl; rfl; (with_reducible apply Tri.op); rfl; (with_reducible apply o_load); rfl; (focus (first | ((repeat (first | with_reducible exact Pull.head | with_reducible apply Pull.tail)); done) | (repeat (first | exact Pull.head | apply Pull.tail)))); rfl; rfl; (with_reducible apply Tri.op); rfl; (with_reducible apply o_rem); rfl; rfl; rfl; (omega); (omega); (with_reducible apply Tri.op); rfl; (with_reducible apply o_convI); rfl; rfl; (first | decide | (exact wrap_i64 (by omega)) | (exact wrap_u8 (by omega)) | (exact wrap_u16 (by omega)) | (exact wrap_u32 (by omega)) | (exact wrap_u64 (by omega))); (with_reducible apply Tri.op); rfl; (with_reducible apply o_mul64); rfl; rfl; rfl; (omega); (with_reducible apply Tri.op); rfl; (with_reducible apply o_assign); rfl; rfl; (with_reducible refine Tri.nil (Tri.thenN (Tri.seq (Tri.seq (Tri.region ?_))))); (with_reducible apply Tri.op); rfl; (with_reducible apply o_move); rfl; rfl; (with_reducible apply Tri.op); rfl)
    ((with_reducible apply Tri.seti 19 (((pb * 256 : Nat) : Int))); (case h => rfl); (case hi => (rw [hpb]; omega)))
    skip
    ((with_reducible apply o_callS (hs := disk_ImageD d S3 hok3)); (case hargs => (repeat first | exact evs.nil | (apply evs.cons; case a => rfl))); (case p => (repeat (first | exact Pulls.nil | (apply Pulls.cons; (case a => (first | ((repeat (first | with_reducible exact Gv.Pull.head | with_reducible apply Gv.Pull.tail)); done) | (repeat (first | exact Gv.Pull.head | apply Gv.Pull.tail)))))))); (case hn => rfl))
    rintro r7 H7 rfl
    (try dsimp only [List.cons_append, List.nil_append])
    ((with_reducible apply Tri.op); rfl; (with_reducible apply o_move); rfl; rfl; (with_reducible apply Tri.op); rfl; (with_reducible apply o_move); rfl; rfl; (with_reducible apply Tri.op); rfl; (with_reducible apply o_add64); rfl; rfl; rfl; (omega); (with_reducible apply Tri.op); rfl)
    ((with_reducible apply Tri.seti 151 (((pb * 256 + 256 : Nat) : Int))); (case h => rfl); (case hi => (first | rfl | omega | (rw [wrap_i64 (by omega)]; omega))))
    have hlo1 : pb * 256 ≤ pb * 256 + 256 := Nat.le_add_right _ _
    have hlo2 : pb * 256 + 256 ≤ S3.A.length := by rw [hA4]; rcases (show pb = 0 ∨ pb = 1 by clear hlo1; omega) with r | r <;> rw [r] <;> decide
    have hcut : (S3.A.drop (pb * 256)).take (pb * 256 + 256 - pb * 256) = pgAt S3.A pb := by rw [Nat.add_sub_cancel_left]; rfl
    ((with_reducible apply o_slice (lo := pb * 256) (hi := pb * 256 + 256)); (case hx => rfl); (case hr => exact rdw_own (by (first | ((repeat (first | with_reducible exact Pull.head | with_reducible apply Pull.tail)); done) | (repeat (first | exact Pull.head | apply Pull.tail))))); (case hol => first | exact fun _ _ => rfl | exact fun a ha => congrArg some (ha.eval rfl)); (case hoh => first | exact fun _ _ => rfl | exact fun a ha => congrArg some (ha.eval rfl)); (case hlo => first | exact .inr ⟨rfl, rfl⟩ | exact .inl ⟨_, rfl⟩ | exact .inl ⟨_, (by congr 2; omega)⟩); (case hhi => first | exact .inr ⟨rfl, rfl⟩ | exact .inl ⟨_, rfl⟩ | exact .inl ⟨_, (by congr 2; omega)⟩); (case hlh => omega); (case hhm => omega); (case hn => rfl))
    ((with_reducible apply Tri.op); rfl)
    ((with_reducible apply o_callR (hs := ref03_Get (subv r7 1 (pb * 256) (pb * 256 + 256)) (pgAt S3.A pb))); (case hargs => (repeat first | exact evs.nil | (apply evs.cons; case a => rfl))); (case hpre => exact fun w' hw' => (by have q := sub_rd (rdw_own (by (first | ((repeat (first | with_reducible exact Pull.head | with_reducible apply Pull.tail)); done) | (repeat (first | exact Pull.head | apply Pull.tail)))) w' hw') (pb * 256) (pb * 256 + 256) hlo1 hlo2; rw [hcut] at q; exact q)); (case hn => rfl))
    rintro r8 H8 ⟨A8, c8, rfl, rfl⟩
    obtain ⟨Q, hQ⟩ : ∃ Q, Q = getP (pgAt S3.A pb) := ⟨_, rfl⟩
    rw [← hQ]
    have hQ2 : Q = getP (pgAt S3.V (b.gen % 2)) := by rw [hQ, hVA, hpb]
    obtain ⟨pq, ee⟩ := Q
    (try dsimp only [List.cons_append, List.nil_append])
    ((with_reducible apply Tri.op); rfl; (with_reducible apply o_move); rfl; rfl; (with_reducible apply Tri.op); rfl; (with_reducible apply o_extract); rfl; rfl; rfl; (with_reducible apply Tri.op); rfl; (with_reducible apply o_extract); rfl; rfl; rfl; (with_reducible apply Tri.op); rfl)
    ((with_reducible apply o_alloc); (case hn => rfl); intro b20)
    ((with_reducible apply Tri.op); rfl)
    ((with_reducible apply o_storeAll (ys := pgL pq (.slice A8 pq.b.length c8))); (case hx => rfl); (case hy => rfl); (case p => (first | ((repeat (first | with_reducible exact Pull.head | with_reducible apply Pull.tail)); done) | (repeat (first | exact Pull.head | apply Pull.tail)))); (case hl => rfl); (case hc => rfl); (case h1 => exact pgL_one pq A8 _ c8))
    ((with_reducible apply Tri.op); rfl; (with_reducible apply o_assign); rfl; rfl; (with_reducible refine Tri.nil (Tri.thenN (Tri.seq ?_))))
    by_cases hee : ee = 0
    · subst hee
      ((first | with_reducible apply Tri.mix [blk b20 79 (pgL pq (.slice A8 pq.b.length c8)), own 5 1 (.slice A8 pq.b.length c8) pq.b.length (B8 pq.b), blk b4 42 (spL b)] | ((with_reducible apply TriR.mix [blk b20 79 (pgL pq (.slice A8 pq.b.length c8)), own 5 1 (.slice A8 pq.b.length c8) pq.b.length (B8 pq.b), blk b4 42 (spL b)]); (case hnd => rfl))); (case p => (repeat (first | exact Pulls.nil | (apply Pulls.cons; (case a => (first | ((repeat (first | with_reducible exact Gv.Pull.head | with_reducible apply Gv.Pull.tail)); done) | (repeat (first | exact Gv.Pull.head | apply Gv.Pull.tail)))))))); (dsimp only [List.length]))
      ((first | ((with_reducible apply TriM.q 0); rfl; rfl) | ((with_reducible apply TriM.qYes 0); rfl; rfl; rfl; with_reducible rfl)); kernel_rfl; rfl; rfl; (intro F K hK; (with_reducible apply o_move); rfl; rfl; exact hK); (first | ((with_reducible apply TriM.q 1); rfl; rfl) | ((with_reducible apply TriM.qYes 1); rfl; rfl; rfl; with_reducible rfl)); kernel_rfl; rfl; rfl; (intro F K hK; (with_reducible apply o_eql); rfl; rfl; rfl; exact hK); (first | ((with_reducible apply TriM.q 2); rfl; rfl) | ((with_reducible apply TriM.qYes 2); rfl; rfl; rfl; with_reducible rfl)); kernel_rfl; rfl; rfl; (intro F K hK; (with_reducible apply o_move); rfl; rfl; exact hK))
      ((with_reducible apply TriM.setb 158 (true)); (case h => rfl); (case hi => rfl))
      ((first | ((with_reducible apply TriM.q 3); rfl; rfl) | ((with_reducible apply TriM.qYes 3); rfl; rfl; rfl; with_reducible rfl)); kernel_rfl; rfl; rfl; (intro F K hK; (with_reducible apply o_fieldAddr); rfl; rfl; exact hK); (first | ((with_reducible apply TriM.q 4); rfl; rfl) | ((with_reducible apply TriM.qYes 4); rfl; rfl; rfl; with_reducible rfl)); kernel_rfl; rfl; rfl; (intro F K hK; (with_reducible apply o_load); rfl; (focus (first | ((repeat (first | with_reducible exact Pull.head | with_reducible apply Pull.tail)); done) | (repeat (first | exact Pull.head | apply Pull.tail)))); rfl; rfl; exact hK))
      ((first | ((with_reducible apply TriM.q 5); (case ho => rfl); (case hg => rfl)) | ((with_reducible apply TriM.qYes 5); (case ho => rfl); (case hg => rfl); (case hyl => rfl); (case hb => with_reducible rfl))); (case hB => kernel_rfl); (case hd => rfl); (case hn => rfl); (case h => (intro F K hK; ((with_reducible apply o_bytesStr (l := pq.b)); (case he => exact Try.underlying5); (case hx => rfl); (case hr => exact rdw_own (by (first | ((repeat (first | with_reducible exact Pull.head | with_reducible apply Pull.tail)); done) | (repeat (first | exact Pull.head | apply Pull.tail))))); (case hn => rfl)); exact hK)))
      ((first | ((with_reducible apply TriM.q 6); (case ho => rfl); (case hg => rfl)) | ((with_reducible apply TriM.qYes 6); (case ho => rfl); (case hg => rfl); (case hyl => rfl); (case hb => with_reducible rfl))); (case hB => kernel_rfl); (case hd => rfl); (case hn => rfl); (case h => (intro F K hK; ((with_reducible apply o_loadAll (cs := spL b)); (case hx => rfl); (case p => exact (by (first | ((repeat (first | with_reducible exact Pull.head | with_reducible apply Pull.tail)); done) | (repeat (first | exact Pull.head | apply Pull.tail))))); (case hl => rfl); (case hn => rfl)); exact hK)))
      ((with_reducible apply TriM.aY 7); (case ho => rfl); (case hg => rfl); (case hyl => rfl); (case hb => with_reducible rfl); (case hr => kernel_rfl); (try dsimp only [List.cons_append, List.nil_append]))
      ((with_reducible apply o_callR (hs := ref15_Put b qb hgb)); (case hargs => (repeat first | exact evs.nil | (apply evs.cons; case a => rfl))); (case hpre => exact fun _ _ => trivial); (case hn => rfl))
      rintro r10 H10 ⟨v10, rfl, rfl⟩
      (try dsimp only [List.cons_append, List.nil_append])
      ((with_reducible apply TriM.back); (case p => (repeat (first | exact Pulls.nil | (apply Pulls.cons; (case a => (first | ((repeat (first | with_reducible exact Gv.Pull.head | with_reducible apply Gv.Pull.tail)); done) | (repeat (first | exact Gv.Pull.head | apply Gv.Pull.tail)))))))))
      ((with_reducible apply TriM.aY 8); (case ho => rfl); (case hg => rfl); (case hyl => rfl); (case hb => with_reducible rfl); (case hr => kernel_rfl); (try dsimp only [List.cons_append, List.nil_append]))
      ((with_reducible apply o_bytesStr (l := putS b)); (case he => exact Try.underlying5); (case hx => rfl); (case hr => (rw [putS_length]; exact rdw_own (by (first | ((repeat (first | with_reducible exact Pull.head | with_reducible apply Pull.tail)); done) | (repeat (first | exact Pull.head | apply Pull.tail)))))); (case hn => rfl))
      ((with_reducible apply TriM.back); (case p => (repeat (first | exact Pulls.nil | (apply Pulls.cons; (case a => (first | ((repeat (first | with_reducible exact Gv.Pull.head | with_reducible apply Gv.Pull.tail)); done) | (repeat (first | exact Gv.Pull.head | apply Gv.Pull.tail)))))))))
      ((first | ((with_reducible apply TriM.q 9); rfl; rfl) | ((with_reducible apply TriM.qYes 9); rfl; rfl; rfl; with_reducible rfl)); kernel_rfl; rfl; rfl; (intro F K hK; (with_reducible apply o_neqS); rfl; rfl; rfl; exact hK); (first | ((with_reducible apply TriM.q 10); rfl; rfl) | ((with_reducible apply TriM.qYes 10); rfl; rfl; rfl; with_reducible rfl)); kernel_rfl; rfl; rfl; (intro F K hK; (with_reducible apply o_pickT); (iterate 4 rfl); exact hK))
      ((with_reducible apply TriM.nil); (case hr => kernel_rfl); (try dsimp only [List.cons_append, List.nil_append]))
      ((with_reducible refine Tri.thenN ?_))
      by_cases hbody : pq.b = putS b
      · have hp2 : (getP (pgAt S3.V (b.gen % 2))).2 ≠ 0 ∨ (getP (pgAt S3.V (b.gen % 2))).1.b = putS b := .inr (by rw [← hQ2]; exact hbody)
        ((with_reducible apply Tri.setb 166 (false)); (case h => rfl); (case hi => (rw [hbody]; simp)))
        obtain ⟨cq, hn, hcab, hcall, hcbad⟩ := tear_new hon3 hA4 qa qb hga hgb hgab hap hbp hpa3 hp2
        have hNo : noB FT = true → cq = a := fun h => hcbad (by rw [hno3 (noB_all h), hz1, getP_nought]; simp)
        have hAl : allB FT = true → cq = b := fun h => hcall (hall3 (allB_all h))
        ((with_reducible apply Tri.condF); rfl; rfl; (with_reducible refine Tri.skip (Tri.thenN (Tri.seq (Tri.region ?_)))); (with_reducible apply Tri.op); rfl)
        ((with_reducible apply o_loadAll); (case hx => rfl); (case p => (first | ((repeat (first | with_reducible exact Pull.head | with_reducible apply Pull.tail)); done) | (repeat (first | exact Pull.head | apply Pull.tail)))); (case hl => exact tabL_length); (case hn => rfl))
        ((with_reducible apply Tri.op); rfl; (with_reducible apply o_move); rfl; rfl; (with_reducible apply Tri.op); rfl)
        ((with_reducible apply o_callS (hs := super_Newest d S3 hok3 hW3)); (case hargs => (repeat first | exact evs.nil | (apply evs.cons; case a => rfl))); (case p => (repeat (first | exact Pulls.nil | (apply Pulls.cons; (case a => (first | ((repeat (first | with_reducible exact Gv.Pull.head | with_reducible apply Gv.Pull.tail)); done) | (repeat (first | exact Gv.Pull.head | apply Gv.Pull.tail)))))))); (case hn => rfl))
        rintro r9 H9 ⟨rfl, rfl⟩
        rw [hn]
        (try dsimp only [List.cons_append, List.nil_append])
        ((with_reducible apply Tri.op); rfl; (with_reducible apply o_move); rfl; rfl; (with_reducible apply Tri.op); rfl; (with_reducible apply o_extract); rfl; rfl; rfl; (with_reducible apply Tri.op); rfl; (with_reducible apply o_extract); rfl; rfl; rfl; (with_reducible apply Tri.op); rfl)
        ((with_reducible apply o_alloc); (case hn => rfl); intro b22)
        ((with_reducible apply Tri.op); rfl)
        ((with_reducible apply o_storeAll (ys := spL cq)); (case hx => rfl); (case hy => rfl); (case p => (first | ((repeat (first | with_reducible exact Pull.head | with_reducible apply Pull.tail)); done) | (repeat (first | exact Pull.head | apply Pull.tail)))); (case hl => rfl); (case hc => rfl); (case h1 => exact spL_one cq))
        ((with_reducible apply Tri.op); rfl; (with_reducible apply o_assign); rfl; rfl; (with_reducible refine Tri.nil (Tri.thenN (Tri.seq (Tri.seq (Tri.region ?_))))); (with_reducible apply Tri.op); rfl; (with_reducible apply o_move); rfl; rfl; (with_reducible apply Tri.op); rfl; (with_reducible apply o_neq); rfl; rfl; rfl; (with_reducible apply Tri.op); rfl; (with_reducible apply o_move); rfl; rfl)
        ((with_reducible apply Tri.setb 175 (false)); (case h => rfl); (case hi => (rw [he1z]; rfl)))
        ((with_reducible apply Tri.opYes); rfl; rfl; rfl; (with_reducible apply o_move); rfl; rfl; (with_reducible apply Tri.opYes); rfl; rfl; rfl; (with_reducible apply o_neq); rfl; rfl; rfl; (with_reducible apply Tri.op); rfl; (with_reducible apply o_pickF); (iterate 4 rfl); (with_reducible apply Tri.op); rfl; (with_reducible apply o_move); rfl; rfl)
        ((with_reducible apply Tri.setb 179 (false)); (case h => rfl); (case hi => rfl))
        ((with_reducible apply Tri.opYes); rfl; rfl; rfl; (with_reducible apply o_move); rfl; rfl; (with_reducible apply Tri.opYes); rfl; rfl; rfl; (with_reducible apply o_neq); rfl; rfl; rfl; (with_reducible apply Tri.op); rfl; (with_reducible apply o_pickF); (iterate 4 rfl); (with_reducible refine Tri.nil (Tri.thenN ?_)))
        ((with_reducible apply Tri.setb 182 (false)); (case h => rfl); (case hi => rfl))
        ((with_reducible apply Tri.condF); rfl; rfl; (with_reducible refine Tri.skip (Tri.thenN (Tri.seq (Tri.region ?_)))); (with_reducible apply Tri.op); rfl)
        ((with_reducible apply o_loadAll (cs := spL cq)); (case hx => rfl); (case p => exact (by (first | ((repeat (first | with_reducible exact Pull.head | with_reducible apply Pull.tail)); done) | (repeat (first | exact Pull.head | apply Pull.tail))))); (case hl => rfl); (case hn => rfl))
        ((with_reducible apply Tri.op); rfl)
        ((with_reducible apply o_callV (hs := law15_from cq)); (case hargs => (repeat first | exact evs.nil | (apply evs.cons; case a => rfl))); (case hpre => exact fun _ _ => trivial); (case hn => rfl))
        ((with_reducible apply Tri.op); rfl)
        ((with_reducible apply o_alloc); (case hn => rfl); intro b24)
        ((with_reducible apply Tri.op); rfl)
        ((with_reducible apply o_storeAll (ys := spL cq)); (case hx => rfl); (case hy => rfl); (case p => (first | ((repeat (first | with_reducible exact Pull.head | with_reducible apply Pull.tail)); done) | (repeat (first | exact Pull.head | apply Pull.tail)))); (case hl => rfl); (case hc => rfl); (case h1 => exact spL_one cq))
        ((with_reducible refine Tri.nil (Tri.thenN (Tri.seq (Tri.region ?_)))); (with_reducible apply Tri.op); rfl)
        ((with_reducible apply o_loadAll (cs := spL cq)); (case hx => rfl); (case p => exact (by (first | ((repeat (first | with_reducible exact Pull.head | with_reducible apply Pull.tail)); done) | (repeat (first | exact Pull.head | apply Pull.tail))))); (case hl => rfl); (case hn => rfl))
        ((with_reducible apply Tri.op); rfl)
        ((with_reducible apply o_loadAll (cs := spL a)); (case hx => rfl); (case p => exact (by (first | ((repeat (first | with_reducible exact Pull.head | with_reducible apply Pull.tail)); done) | (repeat (first | exact Pull.head | apply Pull.tail))))); (case hl => rfl); (case hn => rfl))
        ((with_reducible apply Tri.op); rfl)
        by_cases hca : cq = a
        · have hallF : allB FT = false := by
            cases h : allB FT
            · rfl
            · have h1 := hAl h
              rw [hca] at h1
              rw [h1] at hgab
              exact absurd hgab (by omega)
          rw [hca]
          ((with_reducible apply o_eqlA (r := true)); (case hx => rfl); (case hy => rfl); (case hax => exact sp_alk a); (case hay => exact sp_alk a); (case hr => simp); (case hn => rfl))
          ((with_reducible apply Tri.op); rfl; (with_reducible apply o_move); rfl; rfl; (iterate 3 (with_reducible apply Tri.opNo (c := true)); (iterate 6 rfl)); (with_reducible apply Tri.op); rfl; (with_reducible apply o_pickT); (iterate 4 rfl); (with_reducible apply Tri.op); rfl; (with_reducible apply o_move); rfl; rfl; (with_reducible apply Tri.opYes); rfl; rfl; rfl; (with_reducible apply o_move); rfl; rfl; (with_reducible apply Tri.opYes); rfl; rfl; rfl; (with_reducible apply o_not); rfl; rfl; (with_reducible apply Tri.opYes); rfl; rfl; rfl; (with_reducible apply o_move); rfl; rfl)
          ((with_reducible apply Tri.setb 196 (true)); (case h => rfl); (case hi => (rw [hallF]; rfl)))
          ((iterate 3 (with_reducible apply Tri.opNo (c := true)); (iterate 6 rfl)); (with_reducible apply Tri.opYes); rfl; rfl; rfl; (with_reducible apply o_pickT); (iterate 4 rfl); (with_reducible apply Tri.op); rfl; (with_reducible apply o_pickT); (iterate 4 rfl); (with_reducible apply Tri.op); rfl; (with_reducible apply o_move); rfl; rfl; (with_reducible apply Tri.opYes); rfl; rfl; rfl; (with_reducible apply o_move); rfl; rfl; (with_reducible apply Tri.opYes); rfl; rfl; rfl; (with_reducible apply o_not); rfl; rfl; (with_reducible apply Tri.opYes); rfl; rfl; rfl; (with_reducible apply o_move); rfl; rfl)
          cases hno : noB FT
          · ((with_reducible apply Tri.setb 205 (true)); (case h => rfl); (case hi => rfl))
            ((iterate 3 (with_reducible apply Tri.opNo (c := true)); (iterate 6 rfl)); (with_reducible apply Tri.opYes); rfl; rfl; rfl; (with_reducible apply o_pickT); (iterate 4 rfl); (with_reducible apply Tri.op); rfl; (with_reducible apply o_pickT); (iterate 4 rfl); (with_reducible apply Tri.op); rfl; (with_reducible apply o_assign); rfl; rfl; (with_reducible refine Tri.nil (Tri.thenN (Tri.ret ?_))))
            ((with_reducible apply Tri.setb 6 (true)); (case h => rfl); (case hi => rfl))
            (first | with_reducible apply Tri.fin | with_reducible apply Tri.finN)
            case hr => rfl
            case h => exact ResL.cons (Res1.tmp rfl) ResL.nil
            exact fin_law (F := []) w (by (repeat (first | exact Pulls.nil | (apply Pulls.cons; (case a => (first | ((repeat (first | with_reducible exact Gv.Pull.head | with_reducible apply Gv.Pull.tail)); done) | (repeat (first | exact Gv.Pull.head | apply Gv.Pull.tail)))))))) _ rfl
          · ((with_reducible apply Tri.setb 205 (false)); (case h => rfl); (case hi => rfl))
            ((with_reducible apply Tri.opYes); rfl; rfl; rfl)
            ((with_reducible apply o_loadAll (cs := spL a)); (case hx => rfl); (case p => exact (by (first | ((repeat (first | with_reducible exact Pull.head | with_reducible apply Pull.tail)); done) | (repeat (first | exact Pull.head | apply Pull.tail))))); (case hl => rfl); (case hn => rfl))
            ((with_reducible apply Tri.opYes); rfl; rfl; rfl)
            ((with_reducible apply o_loadAll (cs := spL a)); (case hx => rfl); (case p => exact (by (first | ((repeat (first | with_reducible exact Pull.head | with_reducible apply Pull.tail)); done) | (repeat (first | exact Pull.head | apply Pull.tail))))); (case hl => rfl); (case hn => rfl))
            ((with_reducible apply Tri.opYes); rfl; rfl; rfl)
            ((with_reducible apply o_eqlA (r := true)); (case hx => rfl); (case hy => rfl); (case hax => exact sp_alk a); (case hay => exact sp_alk a); (case hr => simp); (case hn => rfl))
            ((with_reducible apply Tri.opYes); rfl; rfl; rfl; (with_reducible apply o_pickF); (iterate 4 rfl); (with_reducible apply Tri.op); rfl; (with_reducible apply o_pickT); (iterate 4 rfl); (with_reducible apply Tri.op); rfl; (with_reducible apply o_assign); rfl; rfl; (with_reducible refine Tri.nil (Tri.thenN (Tri.ret ?_))))
            ((with_reducible apply Tri.setb 6 (true)); (case h => rfl); (case hi => rfl))
            (first | with_reducible apply Tri.fin | with_reducible apply Tri.finN)
            case hr => rfl
            case h => exact ResL.cons (Res1.tmp rfl) ResL.nil
            exact fin_law (F := []) w (by (repeat (first | exact Pulls.nil | (apply Pulls.cons; (case a => (first | ((repeat (first | with_reducible exact Gv.Pull.head | with_reducible apply Gv.Pull.tail)); done) | (repeat (first | exact Gv.Pull.head | apply Gv.Pull.tail)))))))) _ rfl
        · have hcb : cq = b := by
            rcases hcab with h | h
            · exact absurd h hca
            · exact h
          have hnoF : noB FT = false := by
            cases h : noB FT
            · rfl
            · exact absurd (hNo h) hca
          rw [hcb] at hca ⊢
          ((with_reducible apply o_eqlA (r := false)); (case hx => rfl); (case hy => rfl); (case hax => exact sp_alk b); (case hay => exact sp_alk a); (case hr => exact ⟨fun q => (by cases q), fun q => absurd (spL_inj q) hca⟩); (case hn => rfl))
          ((with_reducible apply Tri.op); rfl; (with_reducible apply o_move); rfl; rfl; (with_reducible apply Tri.opYes); rfl; rfl; rfl)
          ((with_reducible apply o_loadAll (cs := spL b)); (case hx => rfl); (case p => exact (by (first | ((repeat (first | with_reducible exact Pull.head | with_reducible apply Pull.tail)); done) | (repeat (first | exact Pull.head | apply Pull.tail))))); (case hl => rfl); (case hn => rfl))
          ((with_reducible apply Tri.opYes); rfl; rfl; rfl)
          ((with_reducible apply o_loadAll (cs := spL b)); (case hx => rfl); (case p => exact (by (first | ((repeat (first | with_reducible exact Pull.head | with_reducible apply Pull.tail)); done) | (repeat (first | exact Pull.head | apply Pull.tail))))); (case hl => rfl); (case hn => rfl))
          ((with_reducible apply Tri.opYes); rfl; rfl; rfl)
          ((with_reducible apply o_eqlA (r := true)); (case hx => rfl); (case hy => rfl); (case hax => exact sp_alk b); (case hay => exact sp_alk b); (case hr => simp); (case hn => rfl))
          ((with_reducible apply Tri.op); rfl; (with_reducible apply o_pickF); (iterate 4 rfl); (with_reducible apply Tri.op); rfl; (with_reducible apply o_move); rfl; rfl; (with_reducible apply Tri.opYes); rfl; rfl; rfl; (with_reducible apply o_move); rfl; rfl; (with_reducible apply Tri.opYes); rfl; rfl; rfl; (with_reducible apply o_not); rfl; rfl; (with_reducible apply Tri.opYes); rfl; rfl; rfl; (with_reducible apply o_move); rfl; rfl)
          cases hal : allB FT
          · ((with_reducible apply Tri.setb 196 (true)); (case h => rfl); (case hi => rfl))
            ((iterate 3 (with_reducible apply Tri.opNo (c := true)); (iterate 6 rfl)); (with_reducible apply Tri.opYes); rfl; rfl; rfl; (with_reducible apply o_pickT); (iterate 4 rfl); (with_reducible apply Tri.op); rfl; (with_reducible apply o_pickT); (iterate 4 rfl); (with_reducible apply Tri.op); rfl; (with_reducible apply o_move); rfl; rfl; (with_reducible apply Tri.opYes); rfl; rfl; rfl; (with_reducible apply o_move); rfl; rfl; (with_reducible apply Tri.opYes); rfl; rfl; rfl; (with_reducible apply o_not); rfl; rfl; (with_reducible apply Tri.opYes); rfl; rfl; rfl; (with_reducible apply o_move); rfl; rfl)
            ((with_reducible apply Tri.setb 205 (true)); (case h => rfl); (case hi => (rw [hnoF]; rfl)))
            ((iterate 3 (with_reducible apply Tri.opNo (c := true)); (iterate 6 rfl)); (with_reducible apply Tri.opYes); rfl; rfl; rfl; (with_reducible apply o_pickT); (iterate 4 rfl); (with_reducible apply Tri.op); rfl; (with_reducible apply o_pickT); (iterate 4 rfl); (with_reducible apply Tri.op); rfl; (with_reducible apply o_assign); rfl; rfl; (with_reducible refine Tri.nil (Tri.thenN (Tri.ret ?_))))
            ((with_reducible apply Tri.setb 6 (true)); (case h => rfl); (case hi => rfl))
            (first | with_reducible apply Tri.fin | with_reducible apply Tri.finN)
            case hr => rfl
            case h => exact ResL.cons (Res1.tmp rfl) ResL.nil
            exact fin_law (F := []) w (by (repeat (first | exact Pulls.nil | (apply Pulls.cons; (case a => (first | ((repeat (first | with_reducible exact Gv.Pull.head | with_reducible apply Gv.Pull.tail)); done) | (repeat (first | exact Gv.Pull.head | apply Gv.Pull.tail)))))))) _ rfl
          · ((with_reducible apply Tri.setb 196 (false)); (case h => rfl); (case hi => rfl))
            ((with_reducible apply Tri.opYes); rfl; rfl; rfl)
            ((with_reducible apply o_loadAll (cs := spL b)); (case hx => rfl); (case p => exact (by (first | ((repeat (first | with_reducible exact Pull.head | with_reducible apply Pull.tail)); done) | (repeat (first | exact Pull.head | apply Pull.tail))))); (case hl => rfl); (case hn => rfl))
            ((with_reducible apply Tri.opYes); rfl; rfl; rfl)
            ((with_reducible apply o_loadAll (cs := spL b)); (case hx => rfl); (case p => exact (by (first | ((repeat (first | with_reducible exact Pull.head | with_reducible apply Pull.tail)); done) | (repeat (first | exact Pull.head | apply Pull.tail))))); (case hl => rfl); (case hn => rfl))
            ((with_reducible apply Tri.opYes); rfl; rfl; rfl)
            ((with_reducible apply o_eqlA (r := true)); (case hx => rfl); (case hy => rfl); (case hax => exact sp_alk b); (case hay => exact sp_alk b); (case hr => simp); (case hn => rfl))
            ((with_reducible apply Tri.opYes); rfl; rfl; rfl; (with_reducible apply o_pickF); (iterate 4 rfl); (with_reducible apply Tri.op); rfl; (with_reducible apply o_pickT); (iterate 4 rfl); (with_reducible apply Tri.op); rfl; (with_reducible apply o_move); rfl; rfl; (with_reducible apply Tri.opYes); rfl; rfl; rfl; (with_reducible apply o_move); rfl; rfl; (with_reducible apply Tri.opYes); rfl; rfl; rfl; (with_reducible apply o_not); rfl; rfl; (with_reducible apply Tri.opYes); rfl; rfl; rfl; (with_reducible apply o_move); rfl; rfl)
            ((with_reducible apply Tri.setb 205 (true)); (case h => rfl); (case hi => (rw [hnoF]; rfl)))
            ((iterate 3 (with_reducible apply Tri.opNo (c := true)); (iterate 6 rfl)); (with_reducible apply Tri.opYes); rfl; rfl; rfl; (with_reducible apply o_pickT); (iterate 4 rfl); (with_reducible apply Tri.op); rfl; (with_reducible apply o_pickT); (iterate 4 rfl); (with_reducible apply Tri.op); rfl; (with_reducible apply o_assign); rfl; rfl; (with_reducible refine Tri.nil (Tri.thenN (Tri.ret ?_))))
            ((with_reducible apply Tri.setb 6 (true)); (case h => rfl); (case hi => rfl))
            (first | with_reducible apply Tri.fin | with_reducible apply Tri.finN)
            case hr => rfl
            case h => exact ResL.cons (Res1.tmp rfl) ResL.nil
            exact fin_law (F := []) w (by (repeat (first | exact Pulls.nil | (apply Pulls.cons; (case a => (first | ((repeat (first | with_reducible exact Gv.Pull.head | with_reducible apply Gv.Pull.tail)); done) | (repeat (first | exact Gv.Pull.head | apply Gv.Pull.tail)))))))) _ rfl
      · ((with_reducible apply Tri.setb 166 (true)); (case h => rfl); (case hi => simp [hbody]))
        ((with_reducible apply Tri.condT); rfl; rfl; (with_reducible refine Tri.seq (Tri.region ?_)); (with_reducible apply Tri.op); rfl; (with_reducible apply o_assign); rfl; rfl; (with_reducible refine Tri.nil (Tri.thenN (Tri.ret (Tri.thenR ?_)))))
        (first | with_reducible apply Tri.fin | with_reducible apply Tri.finN)
        case hr => rfl
        case h => exact ResL.cons (Res1.tmp rfl) ResL.nil
        exact fin_law (F := []) w (by (repeat (first | exact Pulls.nil | (apply Pulls.cons; (case a => (first | ((repeat (first | with_reducible exact Gv.Pull.head | with_reducible apply Gv.Pull.tail)); done) | (repeat (first | exact Gv.Pull.head | apply Gv.Pull.tail)))))))) _ rfl
    · have hp2 : (getP (pgAt S3.V (b.gen % 2))).2 ≠ 0 ∨ (getP (pgAt S3.V (b.gen % 2))).1.b = putS b := .inl (by rw [← hQ2]; exact hee)
      ((first | with_reducible apply Tri.mix [blk b20 79 (pgL pq (.slice A8 pq.b.length c8)), own 5 1 (.slice A8 pq.b.length c8) pq.b.length (B8 pq.b), blk b4 42 (spL b)] | ((with_reducible apply TriR.mix [blk b20 79 (pgL pq (.slice A8 pq.b.length c8)), own 5 1 (.slice A8 pq.b.length c8) pq.b.length (B8 pq.b), blk b4 42 (spL b)]); (case hnd => rfl))); (case p => (repeat (first | exact Pulls.nil | (apply Pulls.cons; (case a => (first | ((repeat (first | with_reducible exact Gv.Pull.head | with_reducible apply Gv.Pull.tail)); done) | (repeat (first | exact Gv.Pull.head | apply Gv.Pull.tail)))))))); (dsimp only [List.length]))
      ((first | ((with_reducible apply TriM.q 0); rfl; rfl) | ((with_reducible apply TriM.qYes 0); rfl; rfl; rfl; with_reducible rfl)); kernel_rfl; rfl; rfl; (intro F K hK; (with_reducible apply o_move); rfl; rfl; exact hK); (first | ((with_reducible apply TriM.q 1); rfl; rfl) | ((with_reducible apply TriM.qYes 1); rfl; rfl; rfl; with_reducible rfl)); kernel_rfl; rfl; rfl; (intro F K hK; (with_reducible apply o_eql); rfl; rfl; rfl; exact hK); (first | ((with_reducible apply TriM.q 2); rfl; rfl) | ((with_reducible apply TriM.qYes 2); rfl; rfl; rfl; with_reducible rfl)); kernel_rfl; rfl; rfl; (intro F K hK; (with_reducible apply o_move); rfl; rfl; exact hK))
      ((with_reducible apply TriM.setb 158 (false)); (case h => rfl); (case hi => exact decide_eq_false (by omega)))
      (((with_reducible apply TriM.qNo (c := false) 3); (case ho => rfl); (case hg => rfl); (case hyl => rfl); (case hb => with_reducible rfl); (case hc => rfl); (case hB => kernel_rfl); (case hd => rfl); (case hn => rfl)); ((with_reducible apply TriM.qNo (c := false) 4); (case ho => rfl); (case hg => rfl); (case hyl => rfl); (case hb => with_reducible rfl); (case hc => rfl); (case hB => kernel_rfl); (case hd => rfl); (case hn => rfl)); ((with_reducible apply TriM.qNo (c := false) 5); (case ho => rfl); (case hg => rfl); (case hyl => rfl); (case hb => with_reducible rfl); (case hc => rfl); (case hB => kernel_rfl); (case hd => rfl); (case hn => rfl)); ((with_reducible apply TriM.qNo (c := false) 6); (case ho => rfl); (case hg => rfl); (case hyl => rfl); (case hb => with_reducible rfl); (case hc => rfl); (case hB => kernel_rfl); (case hd => rfl); (case hn => rfl)); ((with_reducible apply TriM.qNo (c := false) 7); (case ho => rfl); (case hg => rfl); (case hyl => rfl); (case hb => with_reducible rfl); (case hc => rfl); (case hB => kernel_rfl); (case hd => rfl); (case hn => rfl)); ((with_reducible apply TriM.qNo (c := false) 8); (case ho => rfl); (case hg => rfl); (case hyl => rfl); (case hb => with_reducible rfl); (case hc => rfl); (case hB => kernel_rfl); (case hd => rfl); (case hn => rfl)); ((with_reducible apply TriM.qNo (c := false) 9); (case ho => rfl); (case hg => rfl); (case hyl => rfl); (case hb => with_reducible rfl); (case hc => rfl); (case hB => kernel_rfl); (case hd => rfl); (case hn => rfl)); (first | ((with_reducible apply TriM.q 10); rfl; rfl) | ((with_reducible apply TriM.qYes 10); rfl; rfl; rfl; with_reducible rfl)); kernel_rfl; rfl; rfl; (intro F K hK; (with_reducible apply o_pickF); (iterate 4 rfl); exact hK))
      ((with_reducible apply TriM.nil); (case hr => kernel_rfl); (try dsimp only [List.cons_append, List.nil_append]))
      ((with_reducible refine Tri.thenN ?_); (with_reducible apply Tri.condF); rfl; rfl; (with_reducible refine Tri.skip (Tri.thenN (Tri.seq (Tri.region ?_)))); (with_reducible apply Tri.op); rfl)
      ((with_reducible apply Tri.setb 166 (false)); (case h => rfl); (case hi => rfl))
      obtain ⟨cq, hn, hcab, hcall, hcbad⟩ := tear_new hon3 hA4 qa qb hga hgb hgab hap hbp hpa3 hp2
      have hNo : noB FT = true → cq = a := fun h => hcbad (by rw [hno3 (noB_all h), hz1, getP_nought]; simp)
      have hAl : allB FT = true → cq = b := fun h => hcall (hall3 (allB_all h))
      skip
      ((with_reducible apply o_loadAll); (case hx => rfl); (case p => (first | ((repeat (first | with_reducible exact Pull.head | with_reducible apply Pull.tail)); done) | (repeat (first | exact Pull.head | apply Pull.tail)))); (case hl => exact tabL_length); (case hn => rfl))
      ((with_reducible apply Tri.op); rfl; (with_reducible apply o_move); rfl; rfl; (with_reducible apply Tri.op); rfl)
      ((with_reducible apply o_callS (hs := super_Newest d S3 hok3 hW3)); (case hargs => (repeat first | exact evs.nil | (apply evs.cons; case a => rfl))); (case p => (repeat (first | exact Pulls.nil | (apply Pulls.cons; (case a => (first | ((repeat (first | with_reducible exact Gv.Pull.head | with_reducible apply Gv.Pull.tail)); done) | (repeat (first | exact Gv.Pull.head | apply Gv.Pull.tail)))))))); (case hn => rfl))
      rintro r9 H9 ⟨rfl, rfl⟩
      rw [hn]
      (try dsimp only [List.cons_append, List.nil_append])
      ((with_reducible apply Tri.op); rfl; (with_reducible apply o_move); rfl; rfl; (with_reducible apply Tri.op); rfl; (with_reducible apply o_extract); rfl; rfl; rfl; (with_reducible apply Tri.op); rfl; (with_reducible apply o_extract); rfl; rfl; rfl; (with_reducible apply Tri.op); rfl)
      ((with_reducible apply o_alloc); (case hn => rfl); intro b22)
      ((with_reducible apply Tri.op); rfl)
      ((with_reducible apply o_storeAll (ys := spL cq)); (case hx => rfl); (case hy => rfl); (case p => (first | ((repeat (first | with_reducible exact Pull.head | with_reducible apply Pull.tail)); done) | (repeat (first | exact Pull.head | apply Pull.tail)))); (case hl => rfl); (case hc => rfl); (case h1 => exact spL_one cq))
      ((with_reducible apply Tri.op); rfl; (with_reducible apply o_assign); rfl; rfl; (with_reducible refine Tri.nil (Tri.thenN (Tri.seq (Tri.seq (Tri.region ?_))))); (with_reducible apply Tri.op); rfl; (with_reducible apply o_move); rfl; rfl; (with_reducible apply Tri.op); rfl; (with_reducible apply o_neq); rfl; rfl; rfl; (with_reducible apply Tri.op); rfl; (with_reducible apply o_move); rfl; rfl)
      ((with_reducible apply Tri.setb 175 (false)); (case h => rfl); (case hi => (rw [he1z]; rfl)))
      ((with_reducible apply Tri.opYes); rfl; rfl; rfl; (with_reducible apply o_move); rfl; rfl; (with_reducible apply Tri.opYes); rfl; rfl; rfl; (with_reducible apply o_neq); rfl; rfl; rfl; (with_reducible apply Tri.op); rfl; (with_reducible apply o_pickF); (iterate 4 rfl); (with_reducible apply Tri.op); rfl; (with_reducible apply o_move); rfl; rfl)
      ((with_reducible apply Tri.setb 179 (false)); (case h => rfl); (case hi => rfl))
      ((with_reducible apply Tri.opYes); rfl; rfl; rfl; (with_reducible apply o_move); rfl; rfl; (with_reducible apply Tri.opYes); rfl; rfl; rfl; (with_reducible apply o_neq); rfl; rfl; rfl; (with_reducible apply Tri.op); rfl; (with_reducible apply o_pickF); (iterate 4 rfl); (with_reducible refine Tri.nil (Tri.thenN ?_)))
      ((with_reducible apply Tri.setb 182 (false)); (case h => rfl); (case hi => rfl))
      ((with_reducible apply Tri.condF); rfl; rfl; (with_reducible refine Tri.skip (Tri.thenN (Tri.seq (Tri.region ?_)))); (with_reducible apply Tri.op); rfl)
      ((with_reducible apply o_loadAll (cs := spL cq)); (case hx => rfl); (case p => exact (by (first | ((repeat (first | with_reducible exact Pull.head | with_reducible apply Pull.tail)); done) | (repeat (first | exact Pull.head | apply Pull.tail))))); (case hl => rfl); (case hn => rfl))
      ((with_reducible apply Tri.op); rfl)
      ((with_reducible apply o_callV (hs := law15_from cq)); (case hargs => (repeat first | exact evs.nil | (apply evs.cons; case a => rfl))); (case hpre => exact fun _ _ => trivial); (case hn => rfl))
      ((with_reducible apply Tri.op); rfl)
      ((with_reducible apply o_alloc); (case hn => rfl); intro b24)
      ((with_reducible apply Tri.op); rfl)
      ((with_reducible apply o_storeAll (ys := spL cq)); (case hx => rfl); (case hy => rfl); (case p => (first | ((repeat (first | with_reducible exact Pull.head | with_reducible apply Pull.tail)); done) | (repeat (first | exact Pull.head | apply Pull.tail)))); (case hl => rfl); (case hc => rfl); (case h1 => exact spL_one cq))
      ((with_reducible refine Tri.nil (Tri.thenN (Tri.seq (Tri.region ?_)))); (with_reducible apply Tri.op); rfl)
      ((with_reducible apply o_loadAll (cs := spL cq)); (case hx => rfl); (case p => exact (by (first | ((repeat (first | with_reducible exact Pull.head | with_reducible apply Pull.tail)); done) | (repeat (first | exact Pull.head | apply Pull.tail))))); (case hl => rfl); (case hn => rfl))
      ((with_reducible apply Tri.op); rfl)
      ((with_reducible apply o_loadAll (cs := spL a)); (case hx => rfl); (case p => exact (by (first | ((repeat (first | with_reducible exact Pull.head | with_reducible apply Pull.tail)); done) | (repeat (first | exact Pull.head | apply Pull.tail))))); (case hl => rfl); (case hn => rfl))
      ((with_reducible apply Tri.op); rfl)
      by_cases hca : cq = a
      · have hallF : allB FT = false := by
          cases h : allB FT
          · rfl
          · have h1 := hAl h
            rw [hca] at h1
            rw [h1] at hgab
            exact absurd hgab (by omega)
        rw [hca]
        ((with_reducible apply o_eqlA (r := true)); (case hx => rfl); (case hy => rfl); (case hax => exact sp_alk a); (case hay => exact sp_alk a); (case hr => simp); (case hn => rfl))
        ((with_reducible apply Tri.op); rfl; (with_reducible apply o_move); rfl; rfl; (iterate 3 (with_reducible apply Tri.opNo (c := true)); (iterate 6 rfl)); (with_reducible apply Tri.op); rfl; (with_reducible apply o_pickT); (iterate 4 rfl); (with_reducible apply Tri.op); rfl; (with_reducible apply o_move); rfl; rfl; (with_reducible apply Tri.opYes); rfl; rfl; rfl; (with_reducible apply o_move); rfl; rfl; (with_reducible apply Tri.opYes); rfl; rfl; rfl; (with_reducible apply o_not); rfl; rfl; (with_reducible apply Tri.opYes); rfl; rfl; rfl; (with_reducible apply o_move); rfl; rfl)
        ((with_reducible apply Tri.setb 196 (true)); (case h => rfl); (case hi => (rw [hallF]; rfl)))
        ((iterate 3 (with_reducible apply Tri.opNo (c := true)); (iterate 6 rfl)); (with_reducible apply Tri.opYes); rfl; rfl; rfl; (with_reducible apply o_pickT); (iterate 4 rfl); (with_reducible apply Tri.op); rfl; (with_reducible apply o_pickT); (iterate 4 rfl); (with_reducible apply Tri.op); rfl; (with_reducible apply o_move); rfl; rfl; (with_reducible apply Tri.opYes); rfl; rfl; rfl; (with_reducible apply o_move); rfl; rfl; (with_reducible apply Tri.opYes); rfl; rfl; rfl; (with_reducible apply o_not); rfl; rfl; (with_reducible apply Tri.opYes); rfl; rfl; rfl; (with_reducible apply o_move); rfl; rfl)
        cases hno : noB FT
        · ((with_reducible apply Tri.setb 205 (true)); (case h => rfl); (case hi => rfl))
          ((iterate 3 (with_reducible apply Tri.opNo (c := true)); (iterate 6 rfl)); (with_reducible apply Tri.opYes); rfl; rfl; rfl; (with_reducible apply o_pickT); (iterate 4 rfl); (with_reducible apply Tri.op); rfl; (with_reducible apply o_pickT); (iterate 4 rfl); (with_reducible apply Tri.op); rfl; (with_reducible apply o_assign); rfl; rfl; (with_reducible refine Tri.nil (Tri.thenN (Tri.ret ?_))))
          ((with_reducible apply Tri.setb 6 (true)); (case h => rfl); (case hi => rfl))
          (first | with_reducible apply Tri.fin | with_reducible apply Tri.finN)
          case hr => rfl
          case h => exact ResL.cons (Res1.tmp rfl) ResL.nil
          exact fin_law (F := []) w (by (repeat (first | exact Pulls.nil | (apply Pulls.cons; (case a => (first | ((repeat (first | with_reducible exact Gv.Pull.head | with_reducible apply Gv.Pull.tail)); done) | (repeat (first | exact Gv.Pull.head | apply Gv.Pull.tail)))))))) _ rfl
        · ((with_reducible apply Tri.setb 205 (false)); (case h => rfl); (case hi => rfl))
          ((with_reducible apply Tri.opYes); rfl; rfl; rfl)
          ((with_reducible apply o_loadAll (cs := spL a)); (case hx => rfl); (case p => exact (by (first | ((repeat (first | with_reducible exact Pull.head | with_reducible apply Pull.tail)); done) | (repeat (first | exact Pull.head | apply Pull.tail))))); (case hl => rfl); (case hn => rfl))
          ((with_reducible apply Tri.opYes); rfl; rfl; rfl)
          ((with_reducible apply o_loadAll (cs := spL a)); (case hx => rfl); (case p => exact (by (first | ((repeat (first | with_reducible exact Pull.head | with_reducible apply Pull.tail)); done) | (repeat (first | exact Pull.head | apply Pull.tail))))); (case hl => rfl); (case hn => rfl))
          ((with_reducible apply Tri.opYes); rfl; rfl; rfl)
          ((with_reducible apply o_eqlA (r := true)); (case hx => rfl); (case hy => rfl); (case hax => exact sp_alk a); (case hay => exact sp_alk a); (case hr => simp); (case hn => rfl))
          ((with_reducible apply Tri.opYes); rfl; rfl; rfl; (with_reducible apply o_pickF); (iterate 4 rfl); (with_reducible apply Tri.op); rfl; (with_reducible apply o_pickT); (iterate 4 rfl); (with_reducible apply Tri.op); rfl; (with_reducible apply o_assign); rfl; rfl; (with_reducible refine Tri.nil (Tri.thenN (Tri.ret ?_))))
          ((with_reducible apply Tri.setb 6 (true)); (case h => rfl); (case hi => rfl))
          (first | with_reducible apply Tri.fin | with_reducible apply Tri.finN)
          case hr => rfl
          case h => exact ResL.cons (Res1.tmp rfl) ResL.nil
          exact fin_law (F := []) w (by (repeat (first | exact Pulls.nil | (apply Pulls.cons; (case a => (first | ((repeat (first | with_reducible exact Gv.Pull.head | with_reducible apply Gv.Pull.tail)); done) | (repeat (first | exact Gv.Pull.head | apply Gv.Pull.tail)))))))) _ rfl
      · have hcb : cq = b := by
          rcases hcab with h | h
          · exact absurd h hca
          · exact h
        have hnoF : noB FT = false := by
          cases h : noB FT
          · rfl
          · exact absurd (hNo h) hca
        rw [hcb] at hca ⊢
        ((with_reducible apply o_eqlA (r := false)); (case hx => rfl); (case hy => rfl); (case hax => exact sp_alk b); (case hay => exact sp_alk a); (case hr => exact ⟨fun q => (by cases q), fun q => absurd (spL_inj q) hca⟩); (case hn => rfl))
        ((with_reducible apply Tri.op); rfl; (with_reducible apply o_move); rfl; rfl; (with_reducible apply Tri.opYes); rfl; rfl; rfl)
        ((with_reducible apply o_loadAll (cs := spL b)); (case hx => rfl); (case p => exact (by (first | ((repeat (first | with_reducible exact Pull.head | with_reducible apply Pull.tail)); done) | (repeat (first | exact Pull.head | apply Pull.tail))))); (case hl => rfl); (case hn => rfl))
        ((with_reducible apply Tri.opYes); rfl; rfl; rfl)
        ((with_reducible apply o_loadAll (cs := spL b)); (case hx => rfl); (case p => exact (by (first | ((repeat (first | with_reducible exact Pull.head | with_reducible apply Pull.tail)); done) | (repeat (first | exact Pull.head | apply Pull.tail))))); (case hl => rfl); (case hn => rfl))
        ((with_reducible apply Tri.opYes); rfl; rfl; rfl)
        ((with_reducible apply o_eqlA (r := true)); (case hx => rfl); (case hy => rfl); (case hax => exact sp_alk b); (case hay => exact sp_alk b); (case hr => simp); (case hn => rfl))
        ((with_reducible apply Tri.op); rfl; (with_reducible apply o_pickF); (iterate 4 rfl); (with_reducible apply Tri.op); rfl; (with_reducible apply o_move); rfl; rfl; (with_reducible apply Tri.opYes); rfl; rfl; rfl; (with_reducible apply o_move); rfl; rfl; (with_reducible apply Tri.opYes); rfl; rfl; rfl; (with_reducible apply o_not); rfl; rfl; (with_reducible apply Tri.opYes); rfl; rfl; rfl; (with_reducible apply o_move); rfl; rfl)
        cases hal : allB FT
        · ((with_reducible apply Tri.setb 196 (true)); (case h => rfl); (case hi => rfl))
          ((iterate 3 (with_reducible apply Tri.opNo (c := true)); (iterate 6 rfl)); (with_reducible apply Tri.opYes); rfl; rfl; rfl; (with_reducible apply o_pickT); (iterate 4 rfl); (with_reducible apply Tri.op); rfl; (with_reducible apply o_pickT); (iterate 4 rfl); (with_reducible apply Tri.op); rfl; (with_reducible apply o_move); rfl; rfl; (with_reducible apply Tri.opYes); rfl; rfl; rfl; (with_reducible apply o_move); rfl; rfl; (with_reducible apply Tri.opYes); rfl; rfl; rfl; (with_reducible apply o_not); rfl; rfl; (with_reducible apply Tri.opYes); rfl; rfl; rfl; (with_reducible apply o_move); rfl; rfl)
          ((with_reducible apply Tri.setb 205 (true)); (case h => rfl); (case hi => (rw [hnoF]; rfl)))
          ((iterate 3 (with_reducible apply Tri.opNo (c := true)); (iterate 6 rfl)); (with_reducible apply Tri.opYes); rfl; rfl; rfl; (with_reducible apply o_pickT); (iterate 4 rfl); (with_reducible apply Tri.op); rfl; (with_reducible apply o_pickT); (iterate 4 rfl); (with_reducible apply Tri.op); rfl; (with_reducible apply o_assign); rfl; rfl; (with_reducible refine Tri.nil (Tri.thenN (Tri.ret ?_))))
          ((with_reducible apply Tri.setb 6 (true)); (case h => rfl); (case hi => rfl))
          (first | with_reducible apply Tri.fin | with_reducible apply Tri.finN)
          case hr => rfl
          case h => exact ResL.cons (Res1.tmp rfl) ResL.nil
          exact fin_law (F := []) w (by (repeat (first | exact Pulls.nil | (apply Pulls.cons; (case a => (first | ((repeat (first | with_reducible exact Gv.Pull.head | with_reducible apply Gv.Pull.tail)); done) | (repeat (first | exact Gv.Pull.head | apply Gv.Pull.tail)))))))) _ rfl
        · ((with_reducible apply Tri.setb 196 (false)); (case h => rfl); (case hi => rfl))
          ((with_reducible apply Tri.opYes); rfl; rfl; rfl)
          ((with_reducible apply o_loadAll (cs := spL b)); (case hx => rfl); (case p => exact (by (first | ((repeat (first | with_reducible exact Pull.head | with_reducible apply Pull.tail)); done) | (repeat (first | exact Pull.head | apply Pull.tail))))); (case hl => rfl); (case hn => rfl))
          ((with_reducible apply Tri.opYes); rfl; rfl; rfl)
          ((with_reducible apply o_loadAll (cs := spL b)); (case hx => rfl); (case p => exact (by (first | ((repeat (first | with_reducible exact Pull.head | with_reducible apply Pull.tail)); done) | (repeat (first | exact Pull.head | apply Pull.tail))))); (case hl => rfl); (case hn => rfl))
          ((with_reducible apply Tri.opYes); rfl; rfl; rfl)
          ((with_reducible apply o_eqlA (r := true)); (case hx => rfl); (case hy => rfl); (case hax => exact sp_alk b); (case hay => exact sp_alk b); (case hr => simp); (case hn => rfl))
          ((with_reducible apply Tri.opYes); rfl; rfl; rfl; (with_reducible apply o_pickF); (iterate 4 rfl); (with_reducible apply Tri.op); rfl; (with_reducible apply o_pickT); (iterate 4 rfl); (with_reducible apply Tri.op); rfl; (with_reducible apply o_move); rfl; rfl; (with_reducible apply Tri.opYes); rfl; rfl; rfl; (with_reducible apply o_move); rfl; rfl; (with_reducible apply Tri.opYes); rfl; rfl; rfl; (with_reducible apply o_not); rfl; rfl; (with_reducible apply Tri.opYes); rfl; rfl; rfl; (with_reducible apply o_move); rfl; rfl)
          ((with_reducible apply Tri.setb 205 (true)); (case h => rfl); (case hi => (rw [hnoF]; rfl)))
          ((iterate 3 (with_reducible apply Tri.opNo (c := true)); (iterate 6 rfl)); (with_reducible apply Tri.opYes); rfl; rfl; rfl; (with_reducible apply o_pickT); (iterate 4 rfl); (with_reducible apply Tri.op); rfl; (with_reducible apply o_pickT); (iterate 4 rfl); (with_reducible apply Tri.op); rfl; (with_reducible apply o_assign); rfl; rfl; (with_reducible refine Tri.nil (Tri.thenN (Tri.ret ?_))))
          ((with_reducible apply Tri.setb 6 (true)); (case h => rfl); (case hi => rfl))
          (first | with_reducible apply Tri.fin | with_reducible apply Tri.finN)
          case hr => rfl
          case h => exact ResL.cons (Res1.tmp rfl) ResL.nil
          exact fin_law (F := []) w (by (repeat (first | exact Pulls.nil | (apply Pulls.cons; (case a => (first | ((repeat (first | with_reducible exact Gv.Pull.head | with_reducible apply Gv.Pull.tail)); done) | (repeat (first | exact Gv.Pull.head | apply Gv.Pull.tail)))))))) _ rfl
end Go.Proofs.Ytckdlfbbkemklaa
