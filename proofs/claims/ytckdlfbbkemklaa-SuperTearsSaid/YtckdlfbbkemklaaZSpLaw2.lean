import Derived.Test.YtckdlfbbkemklaaZE
import Derived.Test.YtckdlfbbkemklaaZSpLaw
import Derived.Test.YtckdlfbbkemklaaZSpWalk3
import Derived.Test.YtckdlfbbkemklaaZSpWalk4
/- super: the law's count. -/
namespace Go.Proofs.Ytckdlfbbkemklaa
open Go Go.RowKit Go.Gv
set_option linter.unusedVariables false
set_option linter.unusedSimpArgs false

set_option maxHeartbeats 8000000 in
theorem law15_counts : SpecR Try.prog 20 #[] (fun _ => True) (fun r H' => r = .bool true ∧ H' = []) := by
  refine SpecR.of (fun w _ => ?_)
  refine Calls.enter Try.func20 rfl rfl rfl (St.rebase w) ?_
  simp only [argSlots]
  have hon := DS.new_on 8 (by omega)
  have hok := DS.new_ok 8 (by omega)
  have hAl : (DS.new 8).A.length = 2048 := DS.new_len 8
  have hWl : (DS.new 8).W.length = 0 := by rw [DS.new_W]; rfl
  have hA5 : 512 ≤ (DS.new 8).A.length := by omega
  have hI0 : InvS (DS.new 8) 1 8 := inv_new 8 1 8 (by omega)
  have hn0 := inv_none hon hA5 hI0 (.inr (Nat.le_refl _))
  ((with_reducible refine Tri.seq (Tri.region ?_)); (with_reducible apply Tri.op); rfl; (with_reducible apply o_assign); rfl; rfl; (with_reducible refine Tri.nil (Tri.thenN (Tri.seq (Tri.region ?_)))); (with_reducible apply Tri.op); rfl)
  ((with_reducible apply o_callR (hs := disk_NewD 8 (by omega))); (case hargs => (repeat first | exact evs.nil | (apply evs.cons; case a => rfl))); (case hpre => exact fun _ _ => trivial); (case hn => rfl))
  rintro r1 H1 ⟨d, rfl, rfl⟩
  (try dsimp only [List.cons_append, List.nil_append])
  ((with_reducible apply Tri.op); rfl; (with_reducible apply o_move); rfl; rfl; (with_reducible apply Tri.op); rfl; (with_reducible apply o_extract); rfl; rfl; rfl; (with_reducible apply Tri.op); rfl; (with_reducible apply o_extract); rfl; rfl; rfl; (with_reducible apply Tri.op); rfl; (with_reducible apply o_assign); rfl; rfl; (with_reducible apply Tri.op); rfl; (with_reducible apply o_assign); rfl; rfl; (with_reducible refine Tri.nil (Tri.thenN (Tri.seq (Tri.region ?_)))); (with_reducible apply Tri.op); rfl)
  ((with_reducible apply o_callV (hs := crc_New)); (case hargs => (repeat first | exact evs.nil | (apply evs.cons; case a => rfl))); (case hpre => exact fun _ _ => trivial); (case hn => rfl))
  ((with_reducible apply Tri.op); rfl)
  ((with_reducible apply o_alloc); (case hn => rfl); intro b3)
  ((with_reducible apply Tri.op); rfl)
  ((with_reducible apply o_storeAll); (case hx => rfl); (case hy => rfl); (case p => (repeat first | with_reducible exact Pull.head | apply Pull.tail)); (case hl => exact tabL_length); (case hc => exact List.length_replicate); (case h1 => exact tabL_one))
  ((with_reducible refine Tri.nil (Tri.thenN (Tri.seq (Tri.region ?_)))); (with_reducible apply Tri.op); rfl)
  ((with_reducible apply o_loadAll); (case hx => rfl); (case p => (repeat first | with_reducible exact Pull.head | apply Pull.tail)); (case hl => exact tabL_length); (case hn => rfl))
  ((with_reducible apply Tri.op); rfl; (with_reducible apply o_move); rfl; rfl; (with_reducible apply Tri.op); rfl)
  ((with_reducible apply o_callS (hs := super_Newest d (DS.new 8) hok (by omega))); (case hargs => (repeat first | exact evs.nil | (apply evs.cons; case a => rfl))); (case p => (repeat first | exact Pulls.nil | (apply Pulls.cons; repeat first | with_reducible exact Pull.head | apply Pull.tail))); (case hn => rfl))
  rintro r2 H2 ⟨rfl, rfl⟩
  rw [hn0]
  (try dsimp only [List.cons_append, List.nil_append])
  ((with_reducible apply Tri.op); rfl; (with_reducible apply o_move); rfl; rfl; (with_reducible apply Tri.op); rfl; (with_reducible apply o_extract); rfl; rfl; rfl; (with_reducible apply Tri.op); rfl; (with_reducible apply o_extract); rfl; rfl; rfl; (with_reducible apply Tri.op); rfl)
  ((with_reducible apply o_alloc); (case hn => rfl); intro b4)
  ((with_reducible apply Tri.op); rfl)
  ((with_reducible apply o_storeAll (ys := spL zeroS)); (case hx => rfl); (case hy => rfl); (case p => (repeat first | with_reducible exact Pull.head | apply Pull.tail)); (case hl => rfl); (case hc => rfl); (case h1 => exact spL_one zeroS))
  ((with_reducible apply Tri.op); rfl; (with_reducible apply o_assign); rfl; rfl; (with_reducible refine Tri.nil (Tri.thenN (Tri.seq (Tri.region ?_)))); (with_reducible apply Tri.op); rfl)
  ((with_reducible apply o_loadAll); (case hx => rfl); (case p => (repeat first | with_reducible exact Pull.head | apply Pull.tail)); (case hl => exact tabL_length); (case hn => rfl))
  ((with_reducible apply Tri.op); rfl; (with_reducible apply o_move); rfl; rfl; (with_reducible apply Tri.op); rfl)
  ((with_reducible apply o_build (ys := spL ⟨1, 0, 0, 2, 8⟩)); (case hp => (repeat first | exact pev.nil | (apply pev.cons; case a => rfl))); (case hf => rfl); (case hn => rfl))
  ((with_reducible apply Tri.op); rfl)
  obtain ⟨s1, hs1⟩ : ∃ s : SP, s = ⟨1, 0, 0, 2, 8⟩ := ⟨_, rfl⟩
  obtain ⟨s2, hs2⟩ : ∃ s : SP, s = ⟨2, 0, 0, 3, 8⟩ := ⟨_, rfl⟩
  have ok1 : okS s1 = true := by rw [hs1]; exact spG1
  have ok2 : okS s2 = true := by rw [hs2]; exact spG2
  have g1 : s1.gen = 1 := by rw [hs1]
  have g2 : s2.gen = 2 := by rw [hs2]
  have p1 : s1.pages = 8 := by rw [hs1]
  have p2 : s2.pages = 8 := by rw [hs2]
  rw [← hs1]
  have hg1 : s1.gen < 18446744073709551616 := by omega
  have hg2 : s2.gen < 18446744073709551616 := by omega
  obtain ⟨e1, hon1, hV1, hA1, hW1⟩ := wrS_on hon hA5 ok1
  obtain ⟨hI1, _⟩ := inv_step hon hA5 (P := 8) ok1 hg1 p1 (by rw [g1]; exact hI0)
  ((with_reducible apply o_callS (hs := super_Write d (DS.new 8) s1 hg1 hok (by omega))); (case hargs => (repeat first | exact evs.nil | (apply evs.cons; case a => rfl))); (case p => (repeat first | exact Pulls.nil | (apply Pulls.cons; repeat first | with_reducible exact Pull.head | apply Pull.tail))); (case hn => rfl))
  rintro r3 H3 ⟨rfl, rfl⟩
  rw [e1]
  obtain ⟨S1, hS1⟩ : ∃ S1, S1 = (wrS (DS.new 8) s1).1 := ⟨_, rfl⟩
  rw [← hS1] at hon1 hV1 hA1 hW1 hI1 ⊢
  have hok1 := hon1.1
  have hAl1 : S1.A.length = 2048 := by rw [hA1, hAl]
  have hA51 : 512 ≤ S1.A.length := by omega
  rw [g1] at hI1
  obtain ⟨e2, hon2, hV2, hA2, hW2⟩ := wrS_on hon1 hA51 ok2
  obtain ⟨hI2, hp2⟩ := inv_step hon1 hA51 (P := 8) ok2 hg2 p2 (by rw [g2]; exact hI1)
  (try dsimp only [List.cons_append, List.nil_append])
  ((with_reducible apply Tri.op); rfl; (with_reducible apply o_assign); rfl; rfl; (with_reducible refine Tri.nil (Tri.thenN (Tri.seq (Tri.region ?_)))); (with_reducible apply Tri.op); rfl)
  ((with_reducible apply o_loadAll); (case hx => rfl); (case p => (repeat first | with_reducible exact Pull.head | apply Pull.tail)); (case hl => exact tabL_length); (case hn => rfl))
  ((with_reducible apply Tri.op); rfl; (with_reducible apply o_move); rfl; rfl; (with_reducible apply Tri.op); rfl)
  ((with_reducible apply o_build (ys := spL ⟨2, 0, 0, 3, 8⟩)); (case hp => (repeat first | exact pev.nil | (apply pev.cons; case a => rfl))); (case hf => rfl); (case hn => rfl))
  ((with_reducible apply Tri.op); rfl)
  rw [← hs2]
  ((with_reducible apply o_callS (hs := super_Write d S1 s2 hg2 hok1 (by omega))); (case hargs => (repeat first | exact evs.nil | (apply evs.cons; case a => rfl))); (case p => (repeat first | exact Pulls.nil | (apply Pulls.cons; repeat first | with_reducible exact Pull.head | apply Pull.tail))); (case hn => rfl))
  rintro r4 H4 ⟨rfl, rfl⟩
  rw [e2]
  obtain ⟨S2, hS2⟩ : ∃ S2, S2 = (wrS S1 s2).1 := ⟨_, rfl⟩
  rw [← hS2] at hon2 hV2 hA2 hW2 hI2 hp2 ⊢
  have hok2 := hon2.1
  have hAl2 : S2.A.length = 2048 := by rw [hA2, hAl1]
  have hA52 : 512 ≤ S2.A.length := by omega
  have hn2 : nwS S2 = (s2, 0) := inv_newest hon2 hA52 ok2 hg2 (by rw [p2]; omega) hI2 hp2
  (try dsimp only [List.cons_append, List.nil_append])
  ((with_reducible apply Tri.op); rfl; (with_reducible apply o_assign); rfl; rfl; (with_reducible refine Tri.nil (Tri.thenN (Tri.seq (Tri.region ?_)))); (with_reducible apply Tri.op); rfl)
  ((with_reducible apply o_loadAll); (case hx => rfl); (case p => (repeat first | with_reducible exact Pull.head | apply Pull.tail)); (case hl => exact tabL_length); (case hn => rfl))
  ((with_reducible apply Tri.op); rfl; (with_reducible apply o_move); rfl; rfl; (with_reducible apply Tri.op); rfl)
  ((with_reducible apply o_callS (hs := super_Newest d S2 hok2 (by omega))); (case hargs => (repeat first | exact evs.nil | (apply evs.cons; case a => rfl))); (case p => (repeat first | exact Pulls.nil | (apply Pulls.cons; repeat first | with_reducible exact Pull.head | apply Pull.tail))); (case hn => rfl))
  rintro r5 H5 ⟨rfl, rfl⟩
  rw [hn2]
  (try dsimp only [List.cons_append, List.nil_append])
  ((with_reducible apply Tri.op); rfl; (with_reducible apply o_move); rfl; rfl; (with_reducible apply Tri.op); rfl; (with_reducible apply o_extract); rfl; rfl; rfl; (with_reducible apply Tri.op); rfl; (with_reducible apply o_extract); rfl; rfl; rfl; (with_reducible apply Tri.op); rfl)
  ((with_reducible apply o_alloc); (case hn => rfl); intro b8)
  ((with_reducible apply Tri.op); rfl)
  ((with_reducible apply o_storeAll (ys := spL s2)); (case hx => rfl); (case hy => rfl); (case p => (repeat first | with_reducible exact Pull.head | apply Pull.tail)); (case hl => rfl); (case hc => rfl); (case h1 => exact spL_one s2))
  ((with_reducible apply Tri.op); rfl; (with_reducible apply o_assign); rfl; rfl; (with_reducible refine Tri.nil (Tri.thenN (Tri.seq (Tri.region ?_)))); (with_reducible apply Tri.op); rfl; (with_reducible apply o_move); rfl; rfl; (with_reducible apply Tri.op); rfl; (with_reducible apply o_eql); rfl; rfl; rfl; (with_reducible apply Tri.op); rfl; (with_reducible apply o_move); rfl; rfl)
  ((with_reducible apply Tri.setb 37 (true)); (case h => rfl); (case hi => rfl))
  ((with_reducible apply Tri.opYes); rfl; rfl; rfl; (with_reducible apply o_move); rfl; rfl; (with_reducible apply Tri.opYes); rfl; rfl; rfl; (with_reducible apply o_eql); rfl; rfl; rfl; (with_reducible apply Tri.op); rfl; (with_reducible apply o_pickT); (iterate 4 rfl); (with_reducible apply Tri.op); rfl; (with_reducible apply o_move); rfl; rfl)
  ((with_reducible apply Tri.setb 41 (true)); (case h => rfl); (case hi => rfl))
  ((with_reducible apply Tri.opYes); rfl; rfl; rfl; (with_reducible apply o_move); rfl; rfl; (with_reducible apply Tri.opYes); rfl; rfl; rfl; (with_reducible apply o_eql); rfl; rfl; rfl; (with_reducible apply Tri.op); rfl; (with_reducible apply o_pickT); (iterate 4 rfl); (with_reducible apply Tri.op); rfl; (with_reducible apply o_move); rfl; rfl)
  ((with_reducible apply Tri.setb 45 (true)); (case h => rfl); (case hi => rfl))
  ((with_reducible apply Tri.opYes); rfl; rfl; rfl; (with_reducible apply o_move); rfl; rfl; (with_reducible apply Tri.opYes); rfl; rfl; rfl; (with_reducible apply o_eql); rfl; rfl; rfl; (with_reducible apply Tri.op); rfl; (with_reducible apply o_pickT); (iterate 4 rfl); (with_reducible apply Tri.op); rfl; (with_reducible apply o_move); rfl; rfl)
  ((with_reducible apply Tri.setb 49 (true)); (case h => rfl); (case hi => rfl))
  ((with_reducible apply Tri.opYes); rfl; rfl; rfl; (with_reducible apply o_move); rfl; rfl; (with_reducible apply Tri.opYes); rfl; rfl; rfl; (with_reducible apply o_eql); rfl; rfl; rfl; (with_reducible apply Tri.op); rfl; (with_reducible apply o_pickT); (iterate 4 rfl); (with_reducible apply Tri.op); rfl; (with_reducible apply o_move); rfl; rfl)
  ((with_reducible apply Tri.setb 53 (true)); (case h => rfl); (case hi => rfl))
  ((with_reducible apply Tri.opYes); rfl; rfl; rfl; (with_reducible apply o_fieldAddr); rfl; rfl; (with_reducible apply Tri.opYes); rfl; rfl; rfl; (with_reducible apply o_load); rfl; (repeat first | with_reducible exact Pull.head | apply Pull.tail); rfl; rfl; (with_reducible apply Tri.opYes); rfl; rfl; rfl; (with_reducible apply o_eql); rfl; rfl; rfl; (with_reducible apply Tri.op); rfl; (with_reducible apply o_pickT); (iterate 4 rfl); (with_reducible apply Tri.op); rfl; (with_reducible apply o_move); rfl; rfl)
  ((with_reducible apply Tri.setb 58 (true)); (case h => rfl); (case hi => (rw [hs2]; rfl)))
  ((with_reducible apply Tri.opYes); rfl; rfl; rfl; (with_reducible apply o_fieldAddr); rfl; rfl; (with_reducible apply Tri.opYes); rfl; rfl; rfl; (with_reducible apply o_load); rfl; (repeat first | with_reducible exact Pull.head | apply Pull.tail); rfl; rfl; (with_reducible apply Tri.opYes); rfl; rfl; rfl; (with_reducible apply o_eql); rfl; rfl; rfl; (with_reducible apply Tri.op); rfl; (with_reducible apply o_pickT); (iterate 4 rfl); (with_reducible apply Tri.op); rfl; (with_reducible apply o_assign); rfl; rfl; (with_reducible refine Tri.nil (Tri.thenN (Tri.ret ?_))))
  ((with_reducible apply Tri.setb 0 (true)); (case h => rfl); (case hi => (rw [hs2]; rfl)))
  ((first | with_reducible apply Tri.fin | with_reducible apply Tri.finN); (case hr => rfl); (case h => exact ResL.cons (Res1.tmp rfl) (ResL.nil)); (apply fin_R (Hn := [])); (case p => exact (by (repeat first | exact Pulls.nil | (apply Pulls.cons; repeat first | with_reducible exact Pull.head | apply Pull.tail)))); exact ⟨by simp only [tupled]; done, rfl⟩)
end Go.Proofs.Ytckdlfbbkemklaa
