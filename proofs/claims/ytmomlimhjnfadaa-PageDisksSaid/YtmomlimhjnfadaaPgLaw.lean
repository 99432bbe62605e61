/- page: the known page. -/
import Derived.Test.YtmomlimhjnfadaaPgWalk3
import Derived.Test.YtmomlimhjnfadaaGvLaw
namespace Go.Proofs.Ytmomlimhjnfadaa
open Go Go.RowKit Go.Gv
set_option linter.unusedVariables false
set_option linter.unusedSimpArgs false

theorem nil_rd (h : PH) : Rd h (.slice none 0 0) ([] : List UInt8).length (B8 []) := ⟨none, 0, rfl, ⟨Nat.le_refl _, Nat.zero_le _⟩, fun j u hu => by simp [B8] at hu⟩
def pg0 : PG := ⟨76, 3, 1, []⟩
theorem pg0_ok : okP pg0 = true := by decide
theorem pg0_0 : (B8 (putP pg0))[0 * 1]? = some (.int .u8 76) := rfl
theorem pg0_3 : (B8 (putP pg0))[3 * 1]? = some (.int .u8 3) := rfl
set_option maxHeartbeats 4000000 in
theorem law03_puts : SpecR Try.prog 47 #[] (fun _ => True) (fun r H' => r = .bool true ∧ H' = []) := by
  refine SpecR.of (fun w _ => ?_)
  refine Calls.enter Try.func47 rfl rfl rfl (St.rebase w) ?_
  simp only [argSlots]
  ((with_reducible refine Tri.seq (Tri.region ?_)); (with_reducible apply Tri.op); rfl; (with_reducible apply o_assign); rfl; rfl; (with_reducible refine Tri.nil (Tri.thenN (Tri.seq (Tri.region ?_)))); (with_reducible apply Tri.op); rfl)
  ((with_reducible apply o_callV (hs := crc_New)); (case hargs => (repeat first | exact evs.nil | (apply evs.cons; case a => rfl))); (case hpre => exact fun _ _ => trivial); (case hn => rfl))
  ((with_reducible apply Tri.op); rfl)
  ((with_reducible apply o_alloc); (case hn => rfl); intro b1)
  ((with_reducible apply Tri.op); rfl)
  ((with_reducible apply o_storeAll); (case hx => rfl); (case hy => rfl); (case p => (repeat first | with_reducible exact Pull.head | apply Pull.tail)); (case hl => exact tabL_length); (case hc => exact List.length_replicate); (case h1 => exact tabL_one))
  ((with_reducible refine Tri.nil (Tri.thenN (Tri.seq (Tri.region ?_)))); (with_reducible apply Tri.op); rfl)
  ((with_reducible apply o_loadAll); (case hx => rfl); (case p => (repeat first | with_reducible exact Pull.head | apply Pull.tail)); (case hl => exact tabL_length); (case hn => rfl))
  ((with_reducible apply Tri.op); rfl)
  ((with_reducible apply o_build (ys := pgL pg0 (.slice none 0 0))); (case hp => (repeat first | exact pev.nil | (apply pev.cons; case a => rfl))); (case hf => rfl); (case hn => rfl))
  ((with_reducible apply Tri.op); rfl)
  have hpl : (putP pg0).length = 256 := putP_length pg0 (by decide)
  have hg0 := get_put pg0 pg0_ok (by decide)
  have h00 := pg0_0
  have h03 := pg0_3
  ((with_reducible apply o_callR (hs := page_Put pg0 (.slice none 0 0) pg0_ok (by decide))); (case hargs => (repeat first | exact evs.nil | (apply evs.cons; case a => rfl))); (case hpre => exact fun _ _ => nil_rd _); (case hn => rfl))
  rintro r1 H1 ⟨u, rfl, rfl⟩
  (try dsimp only [List.cons_append, List.nil_append])
  obtain ⟨L0, hL0⟩ : ∃ L0, L0 = putP pg0 := ⟨_, rfl⟩
  rw [← hL0] at hpl hg0 h00 h03 ⊢
  ((with_reducible apply Tri.op); rfl; (with_reducible apply o_move); rfl; rfl; (with_reducible apply Tri.op); rfl; (with_reducible apply o_extract); rfl; rfl; rfl; (with_reducible apply Tri.op); rfl; (with_reducible apply o_extract); rfl; rfl; rfl; (with_reducible apply Tri.op); rfl; (with_reducible apply o_assign); rfl; rfl; (with_reducible apply Tri.op); rfl; (with_reducible apply o_assign); rfl; rfl; (with_reducible refine Tri.nil (Tri.thenN (Tri.seq (Tri.region ?_)))); (with_reducible apply Tri.op); rfl)
  ((with_reducible apply o_loadAll); (case hx => rfl); (case p => (repeat first | with_reducible exact Pull.head | apply Pull.tail)); (case hl => exact tabL_length); (case hn => rfl))
  ((with_reducible apply Tri.op); rfl; (with_reducible apply o_move); rfl; rfl; (with_reducible apply Tri.op); rfl)
  ((with_reducible apply o_callR (hs := page_Get u L0)); (case hargs => (repeat first | exact evs.nil | (apply evs.cons; case a => rfl))); (case hpre => exact rdw_own (by (repeat first | with_reducible exact Pull.head | apply Pull.tail))); (case hn => rfl))
  rintro r2 H2 ⟨A, c, rfl, rfl⟩
  simp only [hg0]
  (try dsimp only [List.cons_append, List.nil_append])
  ((with_reducible apply Tri.op); rfl; (with_reducible apply o_move); rfl; rfl; (with_reducible apply Tri.op); rfl; (with_reducible apply o_extract); rfl; rfl; rfl; (with_reducible apply Tri.op); rfl; (with_reducible apply o_extract); rfl; rfl; rfl; (with_reducible apply Tri.op); rfl)
  ((with_reducible apply o_alloc); (case hn => rfl); intro b4)
  ((with_reducible apply Tri.op); rfl)
  ((with_reducible apply o_storeAll (ys := pgL pg0 (.slice A pg0.b.length c))); (case hx => rfl); (case hy => rfl); (case p => (repeat first | with_reducible exact Pull.head | apply Pull.tail)); (case hl => rfl); (case hc => rfl); (case h1 => exact pgL_one pg0 A _ c))
  ((with_reducible apply Tri.op); rfl; (with_reducible apply o_assign); rfl; rfl; (with_reducible refine Tri.nil (Tri.thenN (Tri.seq (Tri.region ?_)))); (with_reducible apply Tri.op); rfl; (with_reducible apply o_move); rfl; rfl; (with_reducible apply Tri.op); rfl; (with_reducible apply o_eql); rfl; rfl; rfl; (with_reducible apply Tri.op); rfl; (with_reducible apply o_move); rfl; rfl)
  ((with_reducible apply Tri.setb 21 (true)); (case h => rfl); (case hi => rfl))
  ((with_reducible apply Tri.opYes); rfl; rfl; rfl; (with_reducible apply o_move); rfl; rfl; (with_reducible apply Tri.opYes); rfl; rfl; rfl; (with_reducible apply o_eql); rfl; rfl; rfl; (with_reducible apply Tri.op); rfl; (with_reducible apply o_pickT); (iterate 4 rfl); (with_reducible apply Tri.op); rfl; (with_reducible apply o_move); rfl; rfl)
  ((with_reducible apply Tri.setb 25 (true)); (case h => rfl); (case hi => rfl))
  ((with_reducible apply Tri.opYes); rfl; rfl; rfl; (with_reducible apply o_move); rfl; rfl; (with_reducible apply Tri.opYes); rfl; rfl; rfl; (with_reducible apply o_lenOwn); rfl; (repeat first | with_reducible exact Pull.head | apply Pull.tail); rfl; (with_reducible apply Tri.opYes); rfl; rfl; rfl; (with_reducible apply o_eql); rfl; rfl; rfl; (with_reducible apply Tri.op); rfl; (with_reducible apply o_pickT); (iterate 4 rfl); (with_reducible apply Tri.op); rfl; (with_reducible apply o_move); rfl; rfl)
  ((with_reducible apply Tri.setb 30 (true)); (case h => rfl); (case hi => (rw [hpl]; rfl)))
  ((with_reducible apply Tri.opYes); rfl; rfl; rfl; (with_reducible apply o_move); rfl; rfl; (with_reducible apply Tri.opYes); rfl; rfl; rfl)
  ((with_reducible apply o_ixOwn (j := 0)); (case hx => rfl); (case hy => rfl); (case p => (repeat first | with_reducible exact Pull.head | apply Pull.tail)); (case hj => rfl); (case hlt => (rw [hpl]; omega)); (case hn => rfl))
  ((with_reducible apply Tri.opYes); rfl; rfl; rfl)
  ((with_reducible apply o_loadOwn (v := .int .u8 76)); (case hx => rfl); (case p => (repeat first | with_reducible exact Pull.head | apply Pull.tail)); (case hv => exact h00); (case hn => rfl))
  ((with_reducible apply Tri.opYes); rfl; rfl; rfl; (with_reducible apply o_eql); rfl; rfl; rfl; (with_reducible apply Tri.op); rfl; (with_reducible apply o_pickT); (iterate 4 rfl); (with_reducible apply Tri.op); rfl; (with_reducible apply o_move); rfl; rfl)
  ((with_reducible apply Tri.setb 36 (true)); (case h => rfl); (case hi => rfl))
  ((with_reducible apply Tri.opYes); rfl; rfl; rfl; (with_reducible apply o_move); rfl; rfl; (with_reducible apply Tri.opYes); rfl; rfl; rfl)
  ((with_reducible apply o_ixOwn (j := 3)); (case hx => rfl); (case hy => rfl); (case p => (repeat first | with_reducible exact Pull.head | apply Pull.tail)); (case hj => rfl); (case hlt => (rw [hpl]; omega)); (case hn => rfl))
  ((with_reducible apply Tri.opYes); rfl; rfl; rfl)
  ((with_reducible apply o_loadOwn (v := .int .u8 3)); (case hx => rfl); (case p => (repeat first | with_reducible exact Pull.head | apply Pull.tail)); (case hv => exact h03); (case hn => rfl))
  ((with_reducible apply Tri.opYes); rfl; rfl; rfl; (with_reducible apply o_eql); rfl; rfl; rfl; (with_reducible apply Tri.op); rfl; (with_reducible apply o_pickT); (iterate 4 rfl); (with_reducible apply Tri.op); rfl; (with_reducible apply o_move); rfl; rfl)
  ((with_reducible apply Tri.setb 42 (true)); (case h => rfl); (case hi => rfl))
  ((with_reducible apply Tri.opYes); rfl; rfl; rfl; (with_reducible apply o_fieldAddr); rfl; rfl; (with_reducible apply Tri.opYes); rfl; rfl; rfl; (with_reducible apply o_load); rfl; (repeat first | with_reducible exact Pull.head | apply Pull.tail); rfl; rfl; (with_reducible apply Tri.opYes); rfl; rfl; rfl; (with_reducible apply o_eql); rfl; rfl; rfl; (with_reducible apply Tri.op); rfl; (with_reducible apply o_pickT); (iterate 4 rfl); (with_reducible apply Tri.op); rfl; (with_reducible apply o_move); rfl; rfl)
  ((with_reducible apply Tri.setb 47 (true)); (case h => rfl); (case hi => rfl))
  ((with_reducible apply Tri.opYes); rfl; rfl; rfl; (with_reducible apply o_fieldAddr); rfl; rfl; (with_reducible apply Tri.opYes); rfl; rfl; rfl; (with_reducible apply o_load); rfl; (repeat first | with_reducible exact Pull.head | apply Pull.tail); rfl; rfl; (with_reducible apply Tri.opYes); rfl; rfl; rfl; (with_reducible apply o_eql); rfl; rfl; rfl; (with_reducible apply Tri.op); rfl; (with_reducible apply o_pickT); (iterate 4 rfl); (with_reducible apply Tri.op); rfl; (with_reducible apply o_move); rfl; rfl)
  ((with_reducible apply Tri.setb 52 (true)); (case h => rfl); (case hi => rfl))
  ((with_reducible apply Tri.opYes); rfl; rfl; rfl; (with_reducible apply o_fieldAddr); rfl; rfl; (with_reducible apply Tri.opYes); rfl; rfl; rfl; (with_reducible apply o_load); rfl; (repeat first | with_reducible exact Pull.head | apply Pull.tail); rfl; rfl; (with_reducible apply Tri.opYes); rfl; rfl; rfl; (with_reducible apply o_eql); rfl; rfl; rfl; (with_reducible apply Tri.op); rfl; (with_reducible apply o_pickT); (iterate 4 rfl); (with_reducible apply Tri.op); rfl; (with_reducible apply o_assign); rfl; rfl; (with_reducible refine Tri.nil (Tri.thenN (Tri.ret ?_))))
  ((with_reducible apply Tri.setb 0 (true)); (case h => rfl); (case hi => rfl))
  ((first | with_reducible apply Tri.fin | with_reducible apply Tri.finN); (case hr => rfl); (case h => exact ResL.cons (Res1.tmp rfl) (ResL.nil)); (apply fin_R (Hn := [])); (case p => exact (by (repeat first | exact Pulls.nil | (apply Pulls.cons; repeat first | with_reducible exact Pull.head | apply Pull.tail)))); exact ⟨by simp only [tupled]; done, rfl⟩)

end Go.Proofs.Ytmomlimhjnfadaa
