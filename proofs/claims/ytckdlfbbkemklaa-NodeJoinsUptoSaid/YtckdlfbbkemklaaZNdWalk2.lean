import Derived.Test.YtckdlfbbkemklaaZNdWalk
import Derived.Test.YtckdlfbbkemklaaZPgWalk
/- node: Put and Get, of inner nodes. -/
namespace Go.Proofs.Ytckdlfbbkemklaa
open Go Go.RowKit Go.Gv
set_option linter.unusedVariables false
set_option linter.unusedSimpArgs false

def ndL (ev kv dv : Value) : List Value := [.bool false, ev, kv, dv]
def ndV (ev kv dv : Value) : Value := .agg (ndL ev kv dv).toArray
set_option maxHeartbeats 1000000 in
theorem node_big (v : Value) (l : List UInt8) (n size : Nat) (hs : size ≤ 8) (hl : l.length ≤ 1000000) : Gv.Spec Try.prog 85 #[v, .int .u64 (n : Int), .int .i64 (size : Int)] [own 5 1 v l.length (B8 l)]
    (fun r H' => H' = [own 5 1 r (l ++ bigB n size).length (B8 (l ++ bigB n size))]) := by
  refine Gv.Spec.of (fun w h0 hw => ?_)
  refine Calls.enter Try.func85 rfl rfl rfl hw ?_
  simp only [argSlots]
  (try dsimp only [List.cons_append, List.nil_append])
  ((with_reducible refine Tri.seq (Tri.region ?_)); (with_reducible apply Tri.op); rfl; (with_reducible apply o_assign); rfl; rfl; (with_reducible refine Tri.nil (Tri.thenN (Tri.seq (Tri.seq (Tri.region ?_))))); (with_reducible apply Tri.op); rfl; (with_reducible apply o_move); rfl; rfl; (with_reducible apply Tri.op); rfl; (with_reducible apply o_sub64); rfl; rfl; rfl; (omega); (with_reducible apply Tri.op); rfl; (with_reducible apply o_assign); rfl; rfl; (with_reducible refine Tri.nil (Tri.thenN (Tri.block ?_))))
  ((first | with_reducible apply Tri.loop (α := Σ' (k : Nat) (c : List UInt8) (u : Value), k ≤ size ∧ c ++ bigB n k = l ++ bigB n size) (m := fun x => x.1) (Lx := fun x => [(0, x.2.2.1), (1, .int .u64 (n : Int)), (7, .int .i64 ((x.1 : Int) - 1))]) (Hx := fun x => [own 5 1 x.2.2.1 x.2.1.length (B8 x.2.1), Ex h0]) (x0 := ⟨size, l, v, Nat.le_refl _, rfl⟩) | with_reducible apply TriR.loop (α := Σ' (k : Nat) (c : List UInt8) (u : Value), k ≤ size ∧ c ++ bigB n k = l ++ bigB n size) (m := fun x => x.1) (Lx := fun x => [(0, x.2.2.1), (1, .int .u64 (n : Int)), (7, .int .i64 ((x.1 : Int) - 1))]) (Hx := fun x => [own 5 1 x.2.2.1 x.2.1.length (B8 x.2.1), Ex h0]) (x0 := ⟨size, l, v, Nat.le_refl _, rfl⟩)); (case hL => ((try dsimp only); (repeat (first | exact trivial | refine And.intro (by rfl) ?_)))); (case hH => ((try dsimp only); apply St.all; (repeat (first | exact Pulls.nil | (apply Pulls.cons; (case a => (first | ((repeat (first | with_reducible exact Gv.Pull.head | with_reducible apply Gv.Pull.tail)); done) | (repeat (first | exact Gv.Pull.head | apply Gv.Pull.tail)))))))))); (rintro ⟨k, c, u, hk, hc⟩ mx hmx; (try dsimp only at hmx ⊢))
  have hcl : c.length + k = l.length + size := by
    have := congrArg List.length hc
    simpa [bigB_length] using this
  ((with_reducible refine Tri.seq (Tri.seq (Tri.region ?_))); (with_reducible apply Tri.op); rfl; (with_reducible apply o_move); rfl; rfl; (with_reducible apply Tri.op); rfl; (with_reducible apply o_geq); rfl; rfl; rfl; (with_reducible refine Tri.nil (Tri.thenN ?_)))
  ((first | with_reducible apply Tri.condD | with_reducible apply TriR.condD); (case hc => rfl); (all_goals intro h))
  · obtain ⟨j, rfl⟩ : ∃ j, k = j + 1 := ⟨k - 1, by omega⟩
    ((with_reducible refine Tri.skip (Tri.thenN (Tri.seq (Tri.block (Tri.region ?_))))); (with_reducible apply Tri.op); rfl; (with_reducible apply o_move); rfl; rfl; (with_reducible apply Tri.op); rfl; (with_reducible apply o_move); rfl; rfl; (with_reducible apply Tri.op); rfl; (with_reducible apply o_move); rfl; rfl; (with_reducible apply Tri.op); rfl; (with_reducible apply o_mul64); rfl; rfl; rfl; (omega); (with_reducible apply Tri.op); rfl; (with_reducible apply o_shr); rfl; rfl; rfl; (omega); (with_reducible apply Tri.op); rfl; (with_reducible apply o_conv8); rfl; rfl; (with_reducible apply Tri.op); rfl)
    ((with_reducible apply Tri.seti 19 (((UInt8.ofNat (n / 2 ^ (8 * j))).toNat : Int))); (case h => rfl); (case hi => (rw [show ((j + 1 : Nat) : Int) - 1 = (j : Int) by omega]; exact byte_shr n j (by omega))))
    ((with_reducible apply o_litSl (ys := [.int .u8 ((UInt8.ofNat (n / 2 ^ (8 * j))).toNat : Int)])); (case hp => (repeat first | exact pev.nil | (apply pev.cons; case a => rfl))); (case hm => rfl); (case hf => rfl); (case hn => rfl); intro vl)
    ((with_reducible apply Tri.op); rfl)
    ((with_reducible apply o_append); (case hx => rfl); (case hy => rfl); (case p => (first | ((repeat (first | with_reducible exact Pull.head | with_reducible apply Pull.tail)); done) | (repeat (first | exact Pull.head | apply Pull.tail)))); (case hr => exact rdw_own (by (first | ((repeat (first | with_reducible exact Pull.head | with_reducible apply Pull.tail)); done) | (repeat (first | exact Pull.head | apply Pull.tail))))); (case hl => rfl); (case h1 => (intro y hy; simp at hy; subst hy; rfl)); (case hb => omega); (case hn => rfl))
    intro u'
    ((with_reducible apply Tri.op); rfl; (with_reducible apply o_assign); rfl; rfl; (with_reducible refine Tri.nil (Tri.blockN (Tri.thenN (Tri.region ?_)))); (with_reducible apply Tri.op); rfl; (with_reducible apply o_move); rfl; rfl; (with_reducible apply Tri.op); rfl; (with_reducible apply o_sub64); rfl; rfl; rfl; (omega); (with_reducible apply Tri.op); rfl; (with_reducible apply o_assign); rfl; rfl; (with_reducible refine Tri.nil (Tri.thenN ?_)))
    ((with_reducible apply Tri.eqA (A := own 5 1 u' _ _) (B := own 5 1 u' (c ++ [UInt8.ofNat (n / 2 ^ (8 * j))]).length (B8 (c ++ [UInt8.ofNat (n / 2 ^ (8 * j))])))); (case p => (first | ((repeat (first | with_reducible exact Pull.head | with_reducible apply Pull.tail)); done) | (repeat (first | exact Pull.head | apply Pull.tail)))); (case e => (rw [B8_append, List.length_append]; rfl)))
    ((with_reducible apply Tri.seti 7 (((j : Int) - 1))); (case h => rfl); (case hi => omega))
    ((with_reducible apply Tri.again (y := ⟨j, c ++ [UInt8.ofNat (n / 2 ^ (8 * j))], u', by omega, by rw [← hc, bigB]; simp⟩)); (case p => ((try dsimp only); (repeat (first | exact Pulls.nil | (apply Pulls.cons; (case a => (first | ((repeat (first | with_reducible exact Gv.Pull.head | with_reducible apply Gv.Pull.tail)); done) | (repeat (first | exact Gv.Pull.head | apply Gv.Pull.tail))))))))); (case hm => ((try dsimp only); omega)); (try dsimp only))
    (repeat (first | exact trivial | refine And.intro (by rfl) ?_))
  · obtain rfl : k = 0 := by omega
    have hce : c = l ++ bigB n size := by rw [← hc]; simp [bigB]
    ((with_reducible refine Tri.exit (Tri.thenE (Tri.thenE (Tri.blockE (Tri.thenN (Tri.seq (Tri.region ?_))))))); (with_reducible apply Tri.op); rfl; (with_reducible apply o_move); rfl; rfl; (with_reducible apply Tri.op); rfl; (with_reducible apply o_assign); rfl; rfl; (with_reducible refine Tri.nil (Tri.thenN (Tri.ret ?_))))
    ((with_reducible apply Tri.eqA (A := own 5 1 u _ _) (B := own 5 1 u (l ++ bigB n size).length (B8 (l ++ bigB n size)))); (case p => (first | ((repeat (first | with_reducible exact Pull.head | with_reducible apply Pull.tail)); done) | (repeat (first | exact Pull.head | apply Pull.tail)))); (case e => (rw [hce])))
    ((first | with_reducible apply Tri.fin | with_reducible apply Tri.finN); (case hr => rfl); (case h => (repeat (first | exact ResL.nil | (apply ResL.cons; (case a => (first | exact Res1.tmp rfl | (apply Res1.cell; rfl; (first | ((repeat (first | with_reducible exact Pull.head | with_reducible apply Pull.tail)); done) | (repeat (first | exact Pull.head | apply Pull.tail))); rfl) | (apply Res1.agg; rfl; (first | ((repeat (first | with_reducible exact Pull.head | with_reducible apply Pull.tail)); done) | (repeat (first | exact Pull.head | apply Pull.tail))); rfl; rfl))))))); (apply fin_R (Hn := [own 5 1 u (l ++ bigB n size).length (B8 (l ++ bigB n size))])); (case p => (repeat (first | exact Pulls.nil | (apply Pulls.cons; (case a => (first | ((repeat (first | with_reducible exact Gv.Pull.head | with_reducible apply Gv.Pull.tail)); done) | (repeat (first | exact Gv.Pull.head | apply Gv.Pull.tail)))))))))
    rfl


theorem own_bytes {t : TypeId} {v : Value} {n : Nat} {cs : List Value} {l : List UInt8} (h1 : n = l.length) (h2 : cs = B8 l) : own t 1 v n cs = own t 1 v l.length (B8 l) := by rw [h1, h2]
set_option maxHeartbeats 1000000 in
theorem node_Right_inner (ev kv dv : Value) (ks : List KEY) (kids : List Int) : SpecR Try.prog 74 #[ndV ev kv dv] (fun w => RdW w ev 0 [] ∧ RdW w kv ks.length (KL ks) ∧ RdW w dv kids.length (NL kids)) (fun r H' => r = .bool (innerB ks kids) ∧ H' = []) := by
  refine SpecR.of (fun w hrr => ?_)
  obtain ⟨hr0, hr1, hr2⟩ := hrr
  refine Calls.enter Try.func74 rfl rfl rfl (St.rebase w) ?_
  simp only [argSlots]
  ((with_reducible refine Tri.seq (Tri.region ?_)); (with_reducible apply Tri.op); rfl)
  (first | ((with_reducible apply o_boxA); (case hx => rfl); (case hn => rfl); intro b1) | ((with_reducible apply o_box1); (case hx => rfl); (case h1 => rfl); (case hn => rfl); intro b1))
  ((with_reducible apply Tri.op); rfl; (with_reducible apply o_assign); rfl; rfl; (with_reducible refine Tri.nil (Tri.thenN (Tri.seq (Tri.seq (Tri.region ?_))))); (with_reducible apply Tri.op); rfl; (with_reducible apply o_fieldAddr); rfl; rfl; (with_reducible apply Tri.op); rfl; (with_reducible apply o_load); rfl; (focus (first | ((repeat (first | with_reducible exact Pull.head | with_reducible apply Pull.tail)); done) | (repeat (first | exact Pull.head | apply Pull.tail)))); rfl; rfl; (with_reducible refine Tri.nil (Tri.thenN ?_)); (with_reducible apply Tri.condF); rfl; rfl; (with_reducible refine Tri.skip (Tri.thenN (Tri.seq (Tri.region ?_)))); (with_reducible apply Tri.op); rfl; (with_reducible apply o_fieldAddr); rfl; rfl; (with_reducible apply Tri.op); rfl; (with_reducible apply o_load); rfl; (focus (first | ((repeat (first | with_reducible exact Pull.head | with_reducible apply Pull.tail)); done) | (repeat (first | exact Pull.head | apply Pull.tail)))); rfl; rfl; (with_reducible apply Tri.op); rfl)
  ((with_reducible apply o_lenRd (hr := hr0)); (case hx => rfl); (case hn => rfl))
  ((with_reducible apply Tri.op); rfl; (with_reducible apply o_eql); rfl; rfl; rfl; (with_reducible apply Tri.op); rfl; (with_reducible apply o_move); rfl; rfl)
  ((with_reducible apply Tri.setb 24 (true)); (case h => rfl); (case hi => rfl))
  ((with_reducible apply Tri.opYes); rfl; rfl; rfl; (with_reducible apply o_fieldAddr); rfl; rfl; (with_reducible apply Tri.opYes); rfl; rfl; rfl; (with_reducible apply o_load); rfl; (focus (first | ((repeat (first | with_reducible exact Pull.head | with_reducible apply Pull.tail)); done) | (repeat (first | exact Pull.head | apply Pull.tail)))); rfl; rfl; (with_reducible apply Tri.opYes); rfl; rfl; rfl; (with_reducible apply o_fieldAddr); rfl; rfl; (with_reducible apply Tri.opYes); rfl; rfl; rfl; (with_reducible apply o_load); rfl; (focus (first | ((repeat (first | with_reducible exact Pull.head | with_reducible apply Pull.tail)); done) | (repeat (first | exact Pull.head | apply Pull.tail)))); rfl; rfl; (with_reducible apply Tri.opYes); rfl; rfl; rfl)
  ((with_reducible apply o_callV (hs := node_inner kv dv ks kids)); (case hargs => (repeat first | exact evs.nil | (apply evs.cons; case a => rfl))); (case hpre => exact fun w' hw' => ⟨rdw_ex (by (first | ((repeat (first | with_reducible exact Pull.head | with_reducible apply Pull.tail)); done) | (repeat (first | exact Pull.head | apply Pull.tail)))) hr1 w' hw', rdw_ex (by (first | ((repeat (first | with_reducible exact Pull.head | with_reducible apply Pull.tail)); done) | (repeat (first | exact Pull.head | apply Pull.tail)))) hr2 w' hw'⟩); (case hn => rfl))
  ((with_reducible apply Tri.op); rfl; (with_reducible apply o_pickT); (iterate 4 rfl); (with_reducible apply Tri.op); rfl; (with_reducible apply o_assign); rfl; rfl; (with_reducible refine Tri.nil (Tri.thenN (Tri.ret ?_))))
  ((first | with_reducible apply Tri.fin | with_reducible apply Tri.finN); (case hr => rfl); (case h => exact ResL.cons (Res1.tmp rfl) (ResL.nil)); (apply fin_R (Hn := [])); (case p => exact (by (repeat (first | exact Pulls.nil | (apply Pulls.cons; (case a => (first | ((repeat (first | with_reducible exact Gv.Pull.head | with_reducible apply Gv.Pull.tail)); done) | (repeat (first | exact Gv.Pull.head | apply Gv.Pull.tail))))))))); exact ⟨by simp only [tupled]; done, rfl⟩)
set_option maxHeartbeats 1000000 in
theorem node_Size_inner (ev kv dv : Value) (kids : List Int) : SpecR Try.prog 13 #[ndV ev kv dv] (fun w => RdW w dv kids.length (NL kids)) (fun r H' => r = .int .i64 (kids.length : Int) ∧ H' = []) := by
  refine SpecR.of (fun w hr => ?_)
  refine Calls.enter Try.func13 rfl rfl rfl (St.rebase w) ?_
  simp only [argSlots]
  ((with_reducible refine Tri.seq (Tri.region ?_)); (with_reducible apply Tri.op); rfl)
  (first | ((with_reducible apply o_boxA); (case hx => rfl); (case hn => rfl); intro b1) | ((with_reducible apply o_box1); (case hx => rfl); (case h1 => rfl); (case hn => rfl); intro b1))
  ((with_reducible apply Tri.op); rfl; (with_reducible apply o_assign); rfl; rfl; (with_reducible refine Tri.nil (Tri.thenN (Tri.seq (Tri.seq (Tri.region ?_))))); (with_reducible apply Tri.op); rfl; (with_reducible apply o_fieldAddr); rfl; rfl; (with_reducible apply Tri.op); rfl; (with_reducible apply o_load); rfl; (focus (first | ((repeat (first | with_reducible exact Pull.head | with_reducible apply Pull.tail)); done) | (repeat (first | exact Pull.head | apply Pull.tail)))); rfl; rfl; (with_reducible refine Tri.nil (Tri.thenN ?_)); (with_reducible apply Tri.condF); rfl; rfl; (with_reducible refine Tri.skip (Tri.thenN (Tri.seq (Tri.region ?_)))); (with_reducible apply Tri.op); rfl; (with_reducible apply o_fieldAddr); rfl; rfl; (with_reducible apply Tri.op); rfl; (with_reducible apply o_load); rfl; (focus (first | ((repeat (first | with_reducible exact Pull.head | with_reducible apply Pull.tail)); done) | (repeat (first | exact Pull.head | apply Pull.tail)))); rfl; rfl; (with_reducible apply Tri.op); rfl)
  ((with_reducible apply o_lenRd (hr := hr)); (case hx => rfl); (case hn => rfl))
  ((with_reducible apply Tri.op); rfl; (with_reducible apply o_assign); rfl; rfl; (with_reducible refine Tri.nil (Tri.thenN (Tri.ret ?_))))
  ((first | with_reducible apply Tri.fin | with_reducible apply Tri.finN); (case hr => rfl); (case h => exact ResL.cons (Res1.tmp rfl) (ResL.nil)); (apply fin_R (Hn := [])); (case p => exact (by (repeat (first | exact Pulls.nil | (apply Pulls.cons; (case a => (first | ((repeat (first | with_reducible exact Gv.Pull.head | with_reducible apply Gv.Pull.tail)); done) | (repeat (first | exact Gv.Pull.head | apply Gv.Pull.tail))))))))); exact ⟨by simp only [tupled]; done, rfl⟩)
theorem inner_spec {ks : List KEY} {kids : List Int} (h : innerB ks kids = true) : keysTo ks ks.length = true ∧ kidsTo kids kids.length = true ∧ ks.length = kids.length ∧ 1 ≤ kids.length ∧ kids.length ≤ 16 := by
  simp only [innerB, betw, Bool.and_eq_true, decide_eq_true_eq] at h
  refine ⟨h.1.1.1, h.1.1.2, h.1.2, ?_, ?_⟩ <;> omega
theorem keysTo_at {ks : List KEY} : ∀ {n : Nat}, keysTo ks n = true → ∀ i, i < n → keyAt ks i = true
  | n + 1, h, i, hi => by
    rw [keysTo, Bool.and_eq_true] at h
    by_cases e : i = n
    · subst e; exact h.2
    · exact keysTo_at h.1 i (by omega)
theorem kidsTo_at {ks : List Int} : ∀ {n : Nat}, kidsTo ks n = true → ∀ i, i < n → kidAt ks i = true
  | n + 1, h, i, hi => by
    rw [kidsTo, Bool.and_eq_true] at h
    by_cases e : i = n
    · subst e; exact h.2
    · exact kidsTo_at h.1 i (by omega)
theorem key_range {ks : List KEY} {i : Nat} (h : keyAt ks i = true) : 0 ≤ (ks.getD i (0, 0)).1 ∧ (ks.getD i (0, 0)).1 ≤ 4294967295 := by
  simp only [keyAt, keyOk, betw, Bool.and_eq_true, decide_eq_true_eq] at h
  exact h.1
theorem kid_range {ks : List Int} {i : Nat} (h : kidAt ks i = true) : 2 ≤ ks.getD i 0 ∧ ks.getD i 0 ≤ 511 := by
  simp only [kidAt, betw, Bool.and_eq_true, decide_eq_true_eq] at h
  exact h.1
set_option maxHeartbeats 1000000 in
theorem node_putKey (v : Value) (l : List UInt8) (k : KEY) (hk : 0 ≤ k.1 ∧ k.1 ≤ 4294967295) (hl : l.length ≤ 1000) : Gv.Spec Try.prog 86 #[v, keyV k] [own 5 1 v l.length (B8 l)]
    (fun r H' => H' = [own 5 1 r (l ++ keyB k).length (B8 (l ++ keyB k))]) := by
  refine Gv.Spec.of (fun w h0 hw => ?_)
  refine Calls.enter Try.func86 rfl rfl rfl hw ?_
  simp only [argSlots]
  (try dsimp only [List.cons_append, List.nil_append])
  ((with_reducible refine Tri.seq (Tri.region ?_)); (with_reducible apply Tri.op); rfl)
  (first | ((with_reducible apply o_boxA); (case hx => rfl); (case hn => rfl); intro b3) | ((with_reducible apply o_box1); (case hx => rfl); (case h1 => rfl); (case hn => rfl); intro b3))
  ((with_reducible apply Tri.op); rfl; (with_reducible apply o_assign); rfl; rfl; (with_reducible refine Tri.nil (Tri.thenN (Tri.seq ?_))))
  ((first | with_reducible apply Tri.mix [blk b3 98 (keyL k)] | ((with_reducible apply TriR.mix [blk b3 98 (keyL k)]); (case hnd => rfl))); (case p => (repeat (first | exact Pulls.nil | (apply Pulls.cons; (case a => (first | ((repeat (first | with_reducible exact Gv.Pull.head | with_reducible apply Gv.Pull.tail)); done) | (repeat (first | exact Gv.Pull.head | apply Gv.Pull.tail)))))))); (dsimp only [List.length]))
  ((first | ((with_reducible apply TriM.q 0); rfl; rfl) | ((with_reducible apply TriM.qYes 0); rfl; rfl; rfl; with_reducible rfl)); kernel_rfl; rfl; rfl; (intro F K hK; (with_reducible apply o_move); rfl; rfl; exact hK); (first | ((with_reducible apply TriM.q 1); rfl; rfl) | ((with_reducible apply TriM.qYes 1); rfl; rfl; rfl; with_reducible rfl)); kernel_rfl; rfl; rfl; (intro F K hK; (with_reducible apply o_fieldAddr); rfl; rfl; exact hK); (first | ((with_reducible apply TriM.q 2); rfl; rfl) | ((with_reducible apply TriM.qYes 2); rfl; rfl; rfl; with_reducible rfl)); kernel_rfl; rfl; rfl; (intro F K hK; (with_reducible apply o_load); rfl; (focus (first | ((repeat (first | with_reducible exact Pull.head | with_reducible apply Pull.tail)); done) | (repeat (first | exact Pull.head | apply Pull.tail)))); rfl; rfl; exact hK); (first | ((with_reducible apply TriM.q 3); rfl; rfl) | ((with_reducible apply TriM.qYes 3); rfl; rfl; rfl; with_reducible rfl)); kernel_rfl; rfl; rfl; (intro F K hK; (with_reducible apply o_convI); rfl; rfl; (first | decide | (exact wrap_i64 (by omega)) | (exact wrap_u8 (by omega)) | (exact wrap_u16 (by omega)) | (exact wrap_u32 (by omega)) | (exact wrap_u64 (by omega))); exact hK))
  ((with_reducible apply TriM.setv 8 ((.int .u64 (k.1.toNat : Int)))); (case h => rfl); (case hv => (congr 1; omega)))
  ((first | ((with_reducible apply TriM.q 5); rfl; rfl) | ((with_reducible apply TriM.qYes 5); rfl; rfl; rfl; with_reducible rfl)); kernel_rfl; rfl; rfl; (intro F K hK; (with_reducible apply o_fieldAddr); rfl; rfl; exact hK); (first | ((with_reducible apply TriM.q 6); rfl; rfl) | ((with_reducible apply TriM.qYes 6); rfl; rfl; rfl; with_reducible rfl)); kernel_rfl; rfl; rfl; (intro F K hK; (with_reducible apply o_load); rfl; (focus (first | ((repeat (first | with_reducible exact Pull.head | with_reducible apply Pull.tail)); done) | (repeat (first | exact Pull.head | apply Pull.tail)))); rfl; rfl; exact hK); (first | ((with_reducible apply TriM.q 7); rfl; rfl) | ((with_reducible apply TriM.qYes 7); rfl; rfl; rfl; with_reducible rfl)); kernel_rfl; rfl; rfl; (intro F K hK; (with_reducible apply o_conv64); rfl; rfl; exact hK))
  ((with_reducible apply TriM.setv 12 ((.int .u64 (n64 k.2 : Int)))); (case h => rfl); (case hv => (congr 1; unfold n64; omega)))
  ((with_reducible apply TriM.a 4); (case ho => rfl); (case hg => rfl); (case hr => kernel_rfl); (try dsimp only [List.cons_append, List.nil_append]))
  ((with_reducible apply o_callS (hs := node_big v l k.1.toNat 4 (by omega) (by omega))); (case hargs => (repeat first | exact evs.nil | (apply evs.cons; case a => rfl))); (case p => (repeat (first | exact Pulls.nil | (apply Pulls.cons; (case a => (first | ((repeat (first | with_reducible exact Gv.Pull.head | with_reducible apply Gv.Pull.tail)); done) | (repeat (first | exact Gv.Pull.head | apply Gv.Pull.tail)))))))); (case hn => rfl))
  rintro v2 H2 rfl
  obtain ⟨c2, hc2⟩ : ∃ c2, c2 = l ++ bigB k.1.toNat 4 := ⟨_, rfl⟩
  have hl2 : c2.length = l.length + 4 := by rw [hc2, List.length_append, bigB_length]
  rw [← hc2]
  (try dsimp only [List.cons_append, List.nil_append])
  ((with_reducible apply TriM.back); (case p => (repeat (first | exact Pulls.nil | (apply Pulls.cons; (case a => (first | ((repeat (first | with_reducible exact Gv.Pull.head | with_reducible apply Gv.Pull.tail)); done) | (repeat (first | exact Gv.Pull.head | apply Gv.Pull.tail)))))))))
  ((with_reducible apply TriM.a 8); (case ho => rfl); (case hg => rfl); (case hr => kernel_rfl); (try dsimp only [List.cons_append, List.nil_append]))
  ((with_reducible apply o_callS (hs := node_big v2 c2 (n64 k.2) 8 (by omega) (by omega))); (case hargs => (repeat first | exact evs.nil | (apply evs.cons; case a => rfl))); (case p => (repeat (first | exact Pulls.nil | (apply Pulls.cons; (case a => (first | ((repeat (first | with_reducible exact Gv.Pull.head | with_reducible apply Gv.Pull.tail)); done) | (repeat (first | exact Gv.Pull.head | apply Gv.Pull.tail)))))))); (case hn => rfl))
  rintro v3 H3 rfl
  (try dsimp only [List.cons_append, List.nil_append])
  have e : c2 ++ bigB (n64 k.2) 8 = l ++ keyB k := by rw [hc2, keyB, List.append_assoc]
  rw [e]
  ((with_reducible apply TriM.back); (case p => (repeat (first | exact Pulls.nil | (apply Pulls.cons; (case a => (first | ((repeat (first | with_reducible exact Gv.Pull.head | with_reducible apply Gv.Pull.tail)); done) | (repeat (first | exact Gv.Pull.head | apply Gv.Pull.tail)))))))))
  ((first | ((with_reducible apply TriM.q 9); rfl; rfl) | ((with_reducible apply TriM.qYes 9); rfl; rfl; rfl; with_reducible rfl)); kernel_rfl; rfl; rfl; (intro F K hK; (with_reducible apply o_assign); rfl; rfl; exact hK))
  ((with_reducible apply TriM.nil); (case hr => kernel_rfl); (try dsimp only [List.cons_append, List.nil_append]))
  ((with_reducible refine Tri.thenN (Tri.ret ?_)))
  ((first | with_reducible apply Tri.fin | with_reducible apply Tri.finN); (case hr => rfl); (case h => (repeat (first | exact ResL.nil | (apply ResL.cons; (case a => (first | exact Res1.tmp rfl | (apply Res1.cell; rfl; (first | ((repeat (first | with_reducible exact Pull.head | with_reducible apply Pull.tail)); done) | (repeat (first | exact Pull.head | apply Pull.tail))); rfl) | (apply Res1.agg; rfl; (first | ((repeat (first | with_reducible exact Pull.head | with_reducible apply Pull.tail)); done) | (repeat (first | exact Pull.head | apply Pull.tail))); rfl; rfl))))))); (apply fin_R (Hn := [own 5 1 v3 (l ++ keyB k).length (B8 (l ++ keyB k))])); (case p => (repeat (first | exact Pulls.nil | (apply Pulls.cons; (case a => (first | ((repeat (first | with_reducible exact Gv.Pull.head | with_reducible apply Gv.Pull.tail)); done) | (repeat (first | exact Gv.Pull.head | apply Gv.Pull.tail)))))))))
  rfl
set_option maxHeartbeats 1000000 in
theorem node_Put_no (ev kv dv : Value) (ks : List KEY) (kids : List Int) (h : innerB ks kids = false) : SpecR Try.prog 53 #[ndV ev kv dv] (fun w => RdW w ev 0 [] ∧ RdW w kv ks.length (KL ks) ∧ RdW w dv kids.length (NL kids)) (fun r H' => r = .tuple #[.slice none 0 0, .int .i64 1] ∧ H' = []) := by
  refine SpecR.of (fun w hrr => ?_)
  obtain ⟨hr0, hr1, hr2⟩ := hrr
  refine Calls.enter Try.func53 rfl rfl rfl (St.rebase w) ?_
  simp only [argSlots]
  ((with_reducible refine Tri.seq (Tri.region ?_)); (with_reducible apply Tri.op); rfl)
  (first | ((with_reducible apply o_boxA); (case hx => rfl); (case hn => rfl); intro b1) | ((with_reducible apply o_box1); (case hx => rfl); (case h1 => rfl); (case hn => rfl); intro b1))
  ((with_reducible apply Tri.op); rfl; (with_reducible apply o_assign); rfl; rfl; (with_reducible apply Tri.op); rfl; (with_reducible apply o_assign); rfl; rfl; (with_reducible refine Tri.nil (Tri.thenN (Tri.seq (Tri.seq (Tri.region ?_))))); (with_reducible apply Tri.op); rfl)
  ((with_reducible apply o_loadAll (cs := ndL ev kv dv)); (case hx => rfl); (case p => (first | ((repeat (first | with_reducible exact Pull.head | with_reducible apply Pull.tail)); done) | (repeat (first | exact Pull.head | apply Pull.tail)))); (case hl => rfl); (case hn => rfl))
  ((with_reducible apply Tri.op); rfl)
  ((with_reducible apply o_callV (hs := node_Right_inner ev kv dv ks kids)); (case hargs => (repeat first | exact evs.nil | (apply evs.cons; case a => rfl))); (case hpre => exact fun w' hw' => ⟨rdw_ex (by (first | ((repeat (first | with_reducible exact Pull.head | with_reducible apply Pull.tail)); done) | (repeat (first | exact Pull.head | apply Pull.tail)))) hr0 w' hw', rdw_ex (by (first | ((repeat (first | with_reducible exact Pull.head | with_reducible apply Pull.tail)); done) | (repeat (first | exact Pull.head | apply Pull.tail)))) hr1 w' hw', rdw_ex (by (first | ((repeat (first | with_reducible exact Pull.head | with_reducible apply Pull.tail)); done) | (repeat (first | exact Pull.head | apply Pull.tail)))) hr2 w' hw'⟩); (case hn => rfl))
  ((with_reducible apply Tri.op); rfl; (with_reducible apply o_not); rfl; rfl; (with_reducible refine Tri.nil (Tri.thenN ?_)))
  ((with_reducible apply Tri.setb 11 (true)); (case h => rfl); (case hi => (rw [h]; rfl)))
  ((with_reducible apply Tri.condT); rfl; rfl; (with_reducible refine Tri.seq (Tri.region ?_)); (with_reducible apply Tri.op); rfl; (with_reducible apply o_assign); rfl; rfl; (with_reducible apply Tri.op); rfl; (with_reducible apply o_assign); rfl; rfl; (with_reducible refine Tri.nil (Tri.thenN (Tri.ret (Tri.thenR ?_)))))
  ((first | with_reducible apply Tri.fin | with_reducible apply Tri.finN); (case hr => rfl); (case h => exact ResL.cons (Res1.tmp rfl) (ResL.cons (Res1.tmp rfl) (ResL.nil))); (apply fin_R (Hn := [])); (case p => exact (by (repeat (first | exact Pulls.nil | (apply Pulls.cons; (case a => (first | ((repeat (first | with_reducible exact Gv.Pull.head | with_reducible apply Gv.Pull.tail)); done) | (repeat (first | exact Gv.Pull.head | apply Gv.Pull.tail))))))))); exact ⟨by simp only [tupled]; done, rfl⟩)
set_option maxHeartbeats 4000000 in
theorem node_Put (ev kv dv : Value) (ks : List KEY) (kids : List Int) (h : innerB ks kids = true) : SpecR Try.prog 53 #[ndV ev kv dv] (fun w => RdW w ev 0 [] ∧ RdW w kv ks.length (KL ks) ∧ RdW w dv kids.length (NL kids)) (fun r H' => ∃ u, r = .tuple #[u, .int .i64 0] ∧ H' = [own 5 1 u (putI ks kids).length (B8 (putI ks kids))]) := by
  refine SpecR.of (fun w hrr => ?_)
  obtain ⟨hr0, hr1, hr2⟩ := hrr
  obtain ⟨i1, i2, i3, i4, i5⟩ := inner_spec h
  refine Calls.enter Try.func53 rfl rfl rfl (St.rebase w) ?_
  simp only [argSlots]
  ((with_reducible refine Tri.seq (Tri.region ?_)); (with_reducible apply Tri.op); rfl)
  (first | ((with_reducible apply o_boxA); (case hx => rfl); (case hn => rfl); intro b1) | ((with_reducible apply o_box1); (case hx => rfl); (case h1 => rfl); (case hn => rfl); intro b1))
  ((with_reducible apply Tri.op); rfl; (with_reducible apply o_assign); rfl; rfl; (with_reducible apply Tri.op); rfl; (with_reducible apply o_assign); rfl; rfl; (with_reducible refine Tri.nil (Tri.thenN (Tri.seq (Tri.seq (Tri.region ?_))))); (with_reducible apply Tri.op); rfl)
  ((with_reducible apply o_loadAll (cs := ndL ev kv dv)); (case hx => rfl); (case p => (first | ((repeat (first | with_reducible exact Pull.head | with_reducible apply Pull.tail)); done) | (repeat (first | exact Pull.head | apply Pull.tail)))); (case hl => rfl); (case hn => rfl))
  ((with_reducible apply Tri.op); rfl)
  ((with_reducible apply o_callV (hs := node_Right_inner ev kv dv ks kids)); (case hargs => (repeat first | exact evs.nil | (apply evs.cons; case a => rfl))); (case hpre => exact fun w' hw' => ⟨rdw_ex (by (first | ((repeat (first | with_reducible exact Pull.head | with_reducible apply Pull.tail)); done) | (repeat (first | exact Pull.head | apply Pull.tail)))) hr0 w' hw', rdw_ex (by (first | ((repeat (first | with_reducible exact Pull.head | with_reducible apply Pull.tail)); done) | (repeat (first | exact Pull.head | apply Pull.tail)))) hr1 w' hw', rdw_ex (by (first | ((repeat (first | with_reducible exact Pull.head | with_reducible apply Pull.tail)); done) | (repeat (first | exact Pull.head | apply Pull.tail)))) hr2 w' hw'⟩); (case hn => rfl))
  ((with_reducible apply Tri.op); rfl; (with_reducible apply o_not); rfl; rfl; (with_reducible refine Tri.nil (Tri.thenN ?_)))
  ((with_reducible apply Tri.setb 11 (false)); (case h => rfl); (case hi => (rw [h]; rfl)))
  ((with_reducible apply Tri.condF); rfl; rfl; (with_reducible refine Tri.skip (Tri.thenN (Tri.seq (Tri.region ?_)))); (with_reducible apply Tri.op); rfl)
  ((with_reducible apply o_loadAll (cs := ndL ev kv dv)); (case hx => rfl); (case p => (first | ((repeat (first | with_reducible exact Pull.head | with_reducible apply Pull.tail)); done) | (repeat (first | exact Pull.head | apply Pull.tail)))); (case hl => rfl); (case hn => rfl))
  ((with_reducible apply Tri.op); rfl)
  ((with_reducible apply o_callV (hs := node_Size_inner ev kv dv kids)); (case hargs => (repeat first | exact evs.nil | (apply evs.cons; case a => rfl))); (case hpre => exact rdw_ex (by (first | ((repeat (first | with_reducible exact Pull.head | with_reducible apply Pull.tail)); done) | (repeat (first | exact Pull.head | apply Pull.tail)))) hr2); (case hn => rfl))
  ((with_reducible apply Tri.op); rfl; (with_reducible apply o_convI); rfl; rfl; (first | decide | (exact wrap_i64 (by omega)) | (exact wrap_u8 (by omega)) | (exact wrap_u16 (by omega)) | (exact wrap_u32 (by omega)) | (exact wrap_u64 (by omega))); (with_reducible apply Tri.op); rfl)
  ((with_reducible apply Tri.seti 14 (((UInt8.ofNat kids.length).toNat : Int))); (case h => rfl); (case hi => (have : ((UInt8.ofNat kids.length).toNat : Int) = (kids.length : Int) % 256 := by { simp }; omega)))
  ((with_reducible apply o_litSl (ys := [.int .u8 ((UInt8.ofNat kids.length).toNat : Int)])); (case hp => (repeat first | exact pev.nil | (apply pev.cons; case a => rfl))); (case hm => rfl); (case hf => rfl); (case hn => rfl); intro v4)
  ((with_reducible apply Tri.op); rfl; (with_reducible apply o_assign); rfl; rfl; (with_reducible refine Tri.nil (Tri.thenN (Tri.seq (Tri.seq (Tri.region ?_))))); (with_reducible apply Tri.op); rfl; (with_reducible apply o_fieldAddr); rfl; rfl; (with_reducible apply Tri.op); rfl; (with_reducible apply o_load); rfl; (focus (first | ((repeat (first | with_reducible exact Pull.head | with_reducible apply Pull.tail)); done) | (repeat (first | exact Pull.head | apply Pull.tail)))); rfl; rfl; (with_reducible apply Tri.op); rfl)
  ((with_reducible apply o_lenRd (hr := hr0)); (case hx => rfl); (case hn => rfl))
  ((with_reducible apply Tri.op); rfl; (with_reducible apply o_move); rfl; rfl; (with_reducible refine Tri.nil (Tri.thenN (Tri.block ?_))))
  ((with_reducible apply Tri.eqA (A := own 5 1 v4 _ _) (B := own 5 1 v4 (UInt8.ofNat kids.length :: kidsB ks kids 0).length (B8 (UInt8.ofNat kids.length :: kidsB ks kids 0)))); (case p => (first | ((repeat (first | with_reducible exact Pull.head | with_reducible apply Pull.tail)); done) | (repeat (first | exact Pull.head | apply Pull.tail)))); (case e => rfl))
  ((first | with_reducible apply Tri.loop (α := Unit) (m := fun _ => 0) (Lx := fun _ => [(1, .pointer (some ⟨b1, 0, none⟩)), (4, v4), (17, ev), (18, .int .i64 0), (19, .int .i64 0)]) (Hx := fun _ => [own 5 1 v4 (UInt8.ofNat kids.length :: kidsB ks kids 0).length (B8 (UInt8.ofNat kids.length :: kidsB ks kids 0)), blk b1 33 (ndL ev kv dv), Ex (hp w)]) (x0 := ()) | with_reducible apply TriR.loop (α := Unit) (m := fun _ => 0) (Lx := fun _ => [(1, .pointer (some ⟨b1, 0, none⟩)), (4, v4), (17, ev), (18, .int .i64 0), (19, .int .i64 0)]) (Hx := fun _ => [own 5 1 v4 (UInt8.ofNat kids.length :: kidsB ks kids 0).length (B8 (UInt8.ofNat kids.length :: kidsB ks kids 0)), blk b1 33 (ndL ev kv dv), Ex (hp w)]) (x0 := ())); (case hL => ((try dsimp only); (repeat (first | exact trivial | refine And.intro (by rfl) ?_)))); (case hH => ((try dsimp only); apply St.all; (repeat (first | exact Pulls.nil | (apply Pulls.cons; (case a => (first | ((repeat (first | with_reducible exact Gv.Pull.head | with_reducible apply Gv.Pull.tail)); done) | (repeat (first | exact Gv.Pull.head | apply Gv.Pull.tail)))))))))); (rintro ⟨⟩ mx hmx; (try dsimp only at hmx ⊢))
  ((with_reducible refine Tri.seq (Tri.region ?_)); (with_reducible apply Tri.op); rfl; (with_reducible apply o_lss); rfl; rfl; rfl; (with_reducible refine Tri.nil (Tri.thenN (Tri.seq ?_))))
  ((first | with_reducible apply Tri.condD | with_reducible apply TriR.condD); (case hc => rfl); (all_goals intro hz))
  · omega
  ((with_reducible refine Tri.exit (Tri.thenE (Tri.thenE (Tri.blockE (Tri.thenN (Tri.seq (Tri.seq (Tri.region ?_)))))))); (with_reducible apply Tri.op); rfl; (with_reducible apply o_fieldAddr); rfl; rfl; (with_reducible apply Tri.op); rfl; (with_reducible apply o_load); rfl; (focus (first | ((repeat (first | with_reducible exact Pull.head | with_reducible apply Pull.tail)); done) | (repeat (first | exact Pull.head | apply Pull.tail)))); rfl; rfl; (with_reducible apply Tri.op); rfl)
  ((with_reducible apply o_lenRd (hr := hr2)); (case hx => rfl); (case hn => rfl))
  ((with_reducible apply Tri.op); rfl; (with_reducible apply o_move); rfl; rfl; (with_reducible refine Tri.nil (Tri.thenN (Tri.block ?_))))
  ((first | with_reducible apply Tri.loop (α := Σ' (i : Nat) (u : Value), i ≤ kids.length) (m := fun x => kids.length - x.1) (Lx := fun x => [(1, .pointer (some ⟨b1, 0, none⟩)), (4, x.2.1), (55, dv), (56, .int .i64 (kids.length : Int)), (57, .int .i64 (x.1 : Int))]) (Hx := fun x => [own 5 1 x.2.1 (UInt8.ofNat kids.length :: kidsB ks kids x.1).length (B8 (UInt8.ofNat kids.length :: kidsB ks kids x.1)), blk b1 33 (ndL ev kv dv), Ex (hp w)]) (x0 := ⟨0, v4, Nat.zero_le _⟩) | with_reducible apply TriR.loop (α := Σ' (i : Nat) (u : Value), i ≤ kids.length) (m := fun x => kids.length - x.1) (Lx := fun x => [(1, .pointer (some ⟨b1, 0, none⟩)), (4, x.2.1), (55, dv), (56, .int .i64 (kids.length : Int)), (57, .int .i64 (x.1 : Int))]) (Hx := fun x => [own 5 1 x.2.1 (UInt8.ofNat kids.length :: kidsB ks kids x.1).length (B8 (UInt8.ofNat kids.length :: kidsB ks kids x.1)), blk b1 33 (ndL ev kv dv), Ex (hp w)]) (x0 := ⟨0, v4, Nat.zero_le _⟩)); (case hL => ((try dsimp only); (repeat (first | exact trivial | refine And.intro (by rfl) ?_)))); (case hH => ((try dsimp only); apply St.all; (repeat (first | exact Pulls.nil | (apply Pulls.cons; (case a => (first | ((repeat (first | with_reducible exact Gv.Pull.head | with_reducible apply Gv.Pull.tail)); done) | (repeat (first | exact Gv.Pull.head | apply Gv.Pull.tail)))))))))); (rintro ⟨i, u, hi⟩ mx hmx; (try dsimp only at hmx ⊢))
  obtain ⟨c0, hc0⟩ : ∃ c0, c0 = UInt8.ofNat kids.length :: kidsB ks kids i := ⟨_, rfl⟩
  have hl0 : c0.length = 1 + i * 14 := by rw [hc0, List.length_cons, kidsB_length]; omega
  rw [← hc0]
  ((with_reducible refine Tri.seq (Tri.region ?_)); (with_reducible apply Tri.op); rfl; (with_reducible apply o_lss); rfl; rfl; rfl; (with_reducible refine Tri.nil (Tri.thenN (Tri.seq ?_))))
  ((first | with_reducible apply Tri.condD | with_reducible apply TriR.condD); (case hc => rfl); (all_goals intro hc))
  · have hil : i < kids.length := by omega
    have hik : i < ks.length := by omega
    have hkr := key_range (keysTo_at i1 i hik)
    have hcr := kid_range (kidsTo_at i2 i hil)
    ((with_reducible refine Tri.skip (Tri.thenN (Tri.seq (Tri.block (Tri.seq (Tri.region ?_)))))); (with_reducible apply Tri.op); rfl; (with_reducible apply o_move); rfl; rfl; (with_reducible apply Tri.op); rfl)
    ((with_reducible apply o_ixRd (hr := hr2) (j := i)); (case hx => rfl); (case hy => rfl); (case hj => rfl); (case hlt => exact hil); (case hl => (rw [NL_length]; omega)); (case hn => rfl))
    ((with_reducible apply Tri.op); rfl)
    ((with_reducible apply o_loadRd (hr := hr2)); (case hx => rfl); (case p => (first | ((repeat (first | with_reducible exact Pull.head | with_reducible apply Pull.tail)); done) | (repeat (first | exact Pull.head | apply Pull.tail)))); (case hv => exact (by rw [Nat.mul_one]; exact NL_get kids i hil)); (case hn => rfl))
    ((with_reducible apply Tri.op); rfl; (with_reducible apply o_assign); rfl; rfl; (with_reducible apply Tri.op); rfl; (with_reducible apply o_assign); rfl; rfl; (with_reducible refine Tri.nil (Tri.thenN (Tri.region ?_))); (with_reducible apply Tri.op); rfl; (with_reducible apply o_move); rfl; rfl; (with_reducible apply Tri.op); rfl; (with_reducible apply o_fieldAddr); rfl; rfl; (with_reducible apply Tri.op); rfl; (with_reducible apply o_load); rfl; (focus (first | ((repeat (first | with_reducible exact Pull.head | with_reducible apply Pull.tail)); done) | (repeat (first | exact Pull.head | apply Pull.tail)))); rfl; rfl; (with_reducible apply Tri.op); rfl; (with_reducible apply o_move); rfl; rfl; (with_reducible apply Tri.op); rfl)
    ((with_reducible apply o_ixRd (hr := hr1) (j := i)); (case hx => rfl); (case hy => rfl); (case hj => rfl); (case hlt => exact hik); (case hl => (rw [KL_length]; omega)); (case hn => rfl))
    ((with_reducible apply Tri.op); rfl)
    ((with_reducible apply o_loadAggRd (hr := hr1)); (case hx => rfl); (case p => (first | ((repeat (first | with_reducible exact Pull.head | with_reducible apply Pull.tail)); done) | (repeat (first | exact Pull.head | apply Pull.tail)))); (case hv => exact KL_two ks i hik); (case hl => rfl); (case hn => rfl))
    ((with_reducible apply Tri.op); rfl)
    ((with_reducible apply o_callS (hs := node_putKey u c0 (ks.getD i (0, 0)) hkr (by omega))); (case hargs => (repeat first | exact evs.nil | (apply evs.cons; case a => rfl))); (case p => (repeat (first | exact Pulls.nil | (apply Pulls.cons; (case a => (first | ((repeat (first | with_reducible exact Gv.Pull.head | with_reducible apply Gv.Pull.tail)); done) | (repeat (first | exact Gv.Pull.head | apply Gv.Pull.tail)))))))); (case hn => rfl))
    rintro v2 H2 rfl
    obtain ⟨c2, hc2⟩ : ∃ c2, c2 = c0 ++ keyB (ks.getD i (0, 0)) := ⟨_, rfl⟩
    have hl2 : c2.length = 13 + i * 14 := by rw [hc2, List.length_append, hl0, keyB_length]; omega
    rw [← hc2]
    (try dsimp only [List.cons_append, List.nil_append])
    ((with_reducible apply Tri.op); rfl; (with_reducible apply o_move); rfl; rfl; (with_reducible apply Tri.op); rfl; (with_reducible apply o_convI); rfl; rfl; (first | decide | (exact wrap_i64 (by omega)) | (exact wrap_u8 (by omega)) | (exact wrap_u16 (by omega)) | (exact wrap_u32 (by omega)) | (exact wrap_u64 (by omega))); (with_reducible apply Tri.op); rfl)
    ((with_reducible apply Tri.seti 70 (((kids.getD i 0).toNat : Int))); (case h => rfl); (case hi => omega))
    ((with_reducible apply o_callS (hs := node_big v2 c2 (kids.getD i 0).toNat 2 (by omega) (by omega))); (case hargs => (repeat first | exact evs.nil | (apply evs.cons; case a => rfl))); (case p => (repeat (first | exact Pulls.nil | (apply Pulls.cons; (case a => (first | ((repeat (first | with_reducible exact Gv.Pull.head | with_reducible apply Gv.Pull.tail)); done) | (repeat (first | exact Gv.Pull.head | apply Gv.Pull.tail)))))))); (case hn => rfl))
    rintro v3 H3 rfl
    have e : c2 ++ bigB (kids.getD i 0).toNat 2 = UInt8.ofNat kids.length :: kidsB ks kids (i + 1) := by rw [hc2, hc0, kidsB, List.cons_append, List.cons_append, List.append_assoc]
    rw [e]
    (try dsimp only [List.cons_append, List.nil_append])
    ((with_reducible apply Tri.op); rfl; (with_reducible apply o_assign); rfl; rfl; (with_reducible refine Tri.nil (Tri.blockN (Tri.thenN (Tri.region ?_)))); (with_reducible apply Tri.op); rfl; (with_reducible apply o_add64); rfl; rfl; rfl; (omega); (with_reducible apply Tri.op); rfl; (with_reducible apply o_move); rfl; rfl; (with_reducible refine Tri.nil (Tri.thenN ?_)))
    ((with_reducible apply Tri.again (y := ⟨i + 1, v3, by omega⟩)); (case p => ((try dsimp only); (repeat (first | exact Pulls.nil | (apply Pulls.cons; (case a => (first | ((repeat (first | with_reducible exact Gv.Pull.head | with_reducible apply Gv.Pull.tail)); done) | (repeat (first | exact Gv.Pull.head | apply Gv.Pull.tail))))))))); (case hm => ((try dsimp only); omega)); (try dsimp only))
    (repeat (first | exact trivial | refine And.intro (by rfl) ?_))
  · obtain rfl : i = kids.length := by omega
    ((with_reducible refine Tri.exit (Tri.thenE (Tri.thenE (Tri.blockE (Tri.thenN (Tri.seq (Tri.region ?_))))))); (with_reducible apply Tri.op); rfl; (with_reducible apply o_move); rfl; rfl; (with_reducible apply Tri.op); rfl; (with_reducible apply o_assign); rfl; rfl; (with_reducible apply Tri.op); rfl; (with_reducible apply o_assign); rfl; rfl; (with_reducible refine Tri.nil (Tri.thenN (Tri.ret ?_))))
    ((with_reducible apply Tri.eqA (A := own 5 1 u _ _) (B := own 5 1 u (putI ks kids).length (B8 (putI ks kids)))); (case p => (first | ((repeat (first | with_reducible exact Pull.head | with_reducible apply Pull.tail)); done) | (repeat (first | exact Pull.head | apply Pull.tail)))); (case e => (rw [hc0]; rfl)))
    ((first | with_reducible apply Tri.fin | with_reducible apply Tri.finN); (case hr => rfl); (case h => exact ResL.cons (Res1.tmp rfl) (ResL.cons (Res1.tmp rfl) (ResL.nil))); (apply fin_R (Hn := [own 5 1 u (putI ks kids).length (B8 (putI ks kids))])); (case p => exact (by (repeat (first | exact Pulls.nil | (apply Pulls.cons; (case a => (first | ((repeat (first | with_reducible exact Gv.Pull.head | with_reducible apply Gv.Pull.tail)); done) | (repeat (first | exact Gv.Pull.head | apply Gv.Pull.tail))))))))); exact ⟨u, rfl, rfl⟩)
end Go.Proofs.Ytckdlfbbkemklaa
