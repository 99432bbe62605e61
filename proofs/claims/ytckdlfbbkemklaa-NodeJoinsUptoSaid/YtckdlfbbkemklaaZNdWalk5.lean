import Derived.Test.YtckdlfbbkemklaaZH
import Derived.Test.YtckdlfbbkemklaaZNdWalk4
import Derived.Test.YtckdlfbbkemklaaZB
/- node: entries, leaves; Right, Size, Least of any node. -/
namespace Go.Proofs.Ytckdlfbbkemklaa
open Go Go.RowKit Go.Gv
set_option linter.unusedVariables false
set_option linter.unusedSimpArgs false

def entL (e : ENT) : List Value := [.int .i64 e.key.1, .int .i64 e.key.2, .int .i64 e.fin, .int .i64 e.addr, .int .i64 e.len, .int .i64 e.count, .int .i64 e.codec, .int .u32 (e.crc : Int)]
def entV (e : ENT) : Value := .agg (entL e).toArray
def EL (E : List ENT) : List Value := E.flatMap entL
theorem entL_len (e : ENT) : (entL e).length = 8 := rfl
theorem EL_length : ∀ E, (EL E).length = E.length * 8
  | [] => rfl
  | x :: W => by
    have := EL_length W
    simp only [EL, List.flatMap_cons, List.length_append, List.length_cons, entL_len] at this ⊢; omega
theorem EL_drop : ∀ (F : List ENT) (k : Nat), (EL F).drop (k * 8) = EL (F.drop k)
  | F, 0 => rfl
  | [], k + 1 => by simp [EL]
  | x :: F, k + 1 => by
    rw [show (k + 1) * 8 = k * 8 + 8 by omega, ← List.drop_drop, List.drop_drop, Nat.add_comm, ← List.drop_drop]
    exact EL_drop F k
theorem EL_eight (F : List ENT) (k : Nat) (h : k < F.length) : ((EL F).drop (k * 8)).take 8 = entL (F.getD k ent0) := by
  rw [EL_drop, List.drop_eq_getElem_cons h, List.getD_eq_getElem?_getD, List.getElem?_eq_getElem h]; rfl
theorem EL_key (F : List ENT) (k : Nat) (h : k < F.length) : ((EL F).drop (k * 8)).take 2 = keyL (F.getD k ent0).key := by
  rw [EL_drop, List.drop_eq_getElem_cons h, List.getD_eq_getElem?_getD, List.getElem?_eq_getElem h]; rfl
theorem EL_snoc (a : List ENT) (k : ENT) : EL (a ++ [k]) = EL a ++ entL k := by simp [EL]
theorem entL_one (e : ENT) : ∀ y ∈ entL e, y.oneCell' = true := by
  intro y hy; simp [entL] at hy; rcases hy with rfl | rfl | rfl | rfl | rfl | rfl | rfl | rfl <;> rfl
def ndLL (leaf : Bool) (ev kv dv : Value) : List Value := [.bool leaf, ev, kv, dv]
def ndW (leaf : Bool) (ev kv dv : Value) : Value := .agg (ndLL leaf ev kv dv).toArray
theorem ndLL_len (l : Bool) (a b c : Value) : (ndLL l a b c).length = 4 := rfl

set_option maxHeartbeats 1000000 in
theorem node_PagesE (e : ENT) (hl : 0 ≤ e.len ∧ e.len ≤ 65535) : SpecR Try.prog 143 #[entV e] (fun _ => True) (fun r H' => r = .int .i64 (pagesE e.len) ∧ H' = []) := by
  refine SpecR.of (fun w _ => ?_)
  refine Calls.enter Try.func143 rfl rfl rfl (St.rebase w) ?_
  simp only [argSlots]
  ((with_reducible refine Tri.seq (Tri.region ?_)); (with_reducible apply Tri.op); rfl)
  (first | ((with_reducible apply o_boxA); (case hx => rfl); (case hn => rfl); intro b1) | ((with_reducible apply o_box1); (case hx => rfl); (case h1 => rfl); (case hn => rfl); intro b1))
  ((with_reducible apply Tri.op); rfl; (with_reducible apply o_assign); rfl; rfl; (with_reducible refine Tri.nil (Tri.thenN (Tri.seq (Tri.region ?_)))); (with_reducible apply Tri.op); rfl; (with_reducible apply o_fieldAddr); rfl; rfl; (with_reducible apply Tri.op); rfl; (with_reducible apply o_load); rfl; (repeat first | with_reducible exact Pull.head | apply Pull.tail); rfl; rfl; (with_reducible apply Tri.op); rfl; (with_reducible apply o_add64); rfl; rfl; rfl; (omega); (with_reducible apply Tri.op); rfl; (with_reducible apply o_sub64); rfl; rfl; rfl; (omega); (with_reducible apply Tri.op); rfl; (with_reducible apply o_quo); rfl; rfl; rfl; (omega); (omega); (with_reducible apply Tri.op); rfl; (with_reducible apply o_assign); rfl; rfl; (with_reducible refine Tri.nil (Tri.thenN (Tri.ret ?_))))
  ((with_reducible apply Tri.seti 2 ((pagesE e.len))); (case h => rfl); (case hi => (unfold pagesE; omega)))
  ((first | with_reducible apply Tri.fin | with_reducible apply Tri.finN); (case hr => rfl); (case h => exact ResL.cons (Res1.tmp rfl) (ResL.nil)); (apply fin_R (Hn := [])); (case p => exact (by (repeat first | exact Pulls.nil | (apply Pulls.cons; repeat first | with_reducible exact Pull.head | apply Pull.tail)))); exact ⟨by simp only [tupled]; done, rfl⟩)
set_option maxHeartbeats 4000000 in
theorem node_rightEntry (e : ENT) : SpecR Try.prog 126 #[entV e] (fun _ => True) (fun r H' => r = .bool (entOk e) ∧ H' = []) := by
  refine SpecR.of (fun w _ => ?_)
  refine Calls.enter Try.func126 rfl rfl rfl (St.rebase w) ?_
  simp only [argSlots]
  ((with_reducible refine Tri.seq (Tri.region ?_)); (with_reducible apply Tri.op); rfl)
  (first | ((with_reducible apply o_boxA); (case hx => rfl); (case hn => rfl); intro b1) | ((with_reducible apply o_box1); (case hx => rfl); (case h1 => rfl); (case hn => rfl); intro b1))
  ((with_reducible apply Tri.op); rfl; (with_reducible apply o_assign); rfl; rfl; (with_reducible refine Tri.nil (Tri.thenN (Tri.seq (Tri.seq (Tri.region ?_))))); (with_reducible apply Tri.op); rfl; (with_reducible apply o_fieldAddr); rfl; rfl; (with_reducible apply Tri.op); rfl)
  ((with_reducible apply o_loadAgg (ys := keyL e.key)); (case hx => rfl); (case p => (repeat first | with_reducible exact Pull.head | apply Pull.tail)); (case hv => rfl); (case hl => rfl); (case hn => rfl))
  ((with_reducible apply Tri.op); rfl)
  ((with_reducible apply o_callV (hs := node_rightKey e.key)); (case hargs => (repeat first | exact evs.nil | (apply evs.cons; case a => rfl))); (case hpre => exact fun _ _ => trivial); (case hn => rfl))
  ((with_reducible apply Tri.op); rfl; (with_reducible apply o_not); rfl; rfl; (with_reducible apply Tri.op); rfl; (with_reducible apply o_move); rfl; rfl)
  ((with_reducible apply Tri.casesB 7); (case h => rfl); (all_goals intro h1))
  · have g1 : keyOk e.key = false := by simpa using h1
    ((iterate 6 (with_reducible apply Tri.opNo (c := true)); (iterate 6 rfl)); (with_reducible apply Tri.op); rfl; (with_reducible apply o_pickT); (iterate 4 rfl); (with_reducible apply Tri.op); rfl; (with_reducible apply o_move); rfl; rfl; (iterate 4 (with_reducible apply Tri.opNo (c := true)); (iterate 6 rfl)); (with_reducible apply Tri.op); rfl; (with_reducible apply o_pickT); (iterate 4 rfl); (with_reducible apply Tri.op); rfl; (with_reducible apply o_move); rfl; rfl; (iterate 4 (with_reducible apply Tri.opNo (c := true)); (iterate 6 rfl)); (with_reducible apply Tri.op); rfl; (with_reducible apply o_pickT); (iterate 4 rfl); (with_reducible refine Tri.nil (Tri.thenN ?_)); (with_reducible apply Tri.condT); rfl; rfl; (with_reducible refine Tri.seq (Tri.region ?_)); (with_reducible apply Tri.op); rfl; (with_reducible apply o_assign); rfl; rfl; (with_reducible refine Tri.nil (Tri.thenN (Tri.ret (Tri.thenR ?_)))))
    ((first | with_reducible apply Tri.fin | with_reducible apply Tri.finN); (case hr => rfl); (case h => exact ResL.cons (Res1.tmp rfl) (ResL.nil)); (apply fin_R (Hn := [])); (case p => exact (by (repeat first | exact Pulls.nil | (apply Pulls.cons; repeat first | with_reducible exact Pull.head | apply Pull.tail)))); exact ⟨by simp only [tupled]; (rw [entOk, g1]; rfl), rfl⟩)
  · have g1 : keyOk e.key = true := by simpa using h1
    ((with_reducible apply Tri.opYes); rfl; rfl; rfl; (with_reducible apply o_fieldAddr); rfl; rfl; (with_reducible apply Tri.opYes); rfl; rfl; rfl; (with_reducible apply o_load); rfl; (repeat first | with_reducible exact Pull.head | apply Pull.tail); rfl; rfl; (with_reducible apply Tri.opYes); rfl; rfl; rfl; (with_reducible apply o_fieldAddr); rfl; rfl; (with_reducible apply Tri.opYes); rfl; rfl; rfl; (with_reducible apply o_fieldAddr); rfl; rfl; (with_reducible apply Tri.opYes); rfl; rfl; rfl; (with_reducible apply o_load); rfl; (repeat first | with_reducible exact Pull.head | apply Pull.tail); rfl; rfl; (with_reducible apply Tri.opYes); rfl; rfl; rfl; (with_reducible apply o_lss); rfl; rfl; rfl; (with_reducible apply Tri.op); rfl; (with_reducible apply o_pickF); (iterate 4 rfl); (with_reducible apply Tri.op); rfl; (with_reducible apply o_move); rfl; rfl)
    ((with_reducible apply Tri.casesB 15); (case h => rfl); (all_goals intro h2))
    · have g2 := of_decide_eq_true h2
      ((iterate 4 (with_reducible apply Tri.opNo (c := true)); (iterate 6 rfl)); (with_reducible apply Tri.op); rfl; (with_reducible apply o_pickT); (iterate 4 rfl); (with_reducible apply Tri.op); rfl; (with_reducible apply o_move); rfl; rfl; (iterate 4 (with_reducible apply Tri.opNo (c := true)); (iterate 6 rfl)); (with_reducible apply Tri.op); rfl; (with_reducible apply o_pickT); (iterate 4 rfl); (with_reducible refine Tri.nil (Tri.thenN ?_)); (with_reducible apply Tri.condT); rfl; rfl; (with_reducible refine Tri.seq (Tri.region ?_)); (with_reducible apply Tri.op); rfl; (with_reducible apply o_assign); rfl; rfl; (with_reducible refine Tri.nil (Tri.thenN (Tri.ret (Tri.thenR ?_)))))
      ((first | with_reducible apply Tri.fin | with_reducible apply Tri.finN); (case hr => rfl); (case h => exact ResL.cons (Res1.tmp rfl) (ResL.nil)); (apply fin_R (Hn := [])); (case p => exact (by (repeat first | exact Pulls.nil | (apply Pulls.cons; repeat first | with_reducible exact Pull.head | apply Pull.tail)))); exact ⟨by simp only [tupled]; (rw [entOk, g1, decide_eq_false (show ¬ e.key.2 ≤ e.fin by omega)]; rfl), rfl⟩)
    · have g2 := of_decide_eq_false h2
      ((with_reducible apply Tri.opYes); rfl; rfl; rfl; (with_reducible apply o_fieldAddr); rfl; rfl; (with_reducible apply Tri.opYes); rfl; rfl; rfl; (with_reducible apply o_load); rfl; (repeat first | with_reducible exact Pull.head | apply Pull.tail); rfl; rfl; (with_reducible apply Tri.opYes); rfl; rfl; rfl)
      ((with_reducible apply o_callV (hs := node_between e.addr 2 511)); (case hargs => (repeat first | exact evs.nil | (apply evs.cons; case a => rfl))); (case hpre => exact fun _ _ => trivial); (case hn => rfl))
      ((with_reducible apply Tri.opYes); rfl; rfl; rfl; (with_reducible apply o_not); rfl; rfl; (with_reducible apply Tri.op); rfl; (with_reducible apply o_pickF); (iterate 4 rfl); (with_reducible apply Tri.op); rfl; (with_reducible apply o_move); rfl; rfl)
      ((with_reducible apply Tri.casesB 21); (case h => rfl); (all_goals intro h3))
      · have g3 : betw e.addr 2 511 = false := by simpa using h3
        ((iterate 4 (with_reducible apply Tri.opNo (c := true)); (iterate 6 rfl)); (with_reducible apply Tri.op); rfl; (with_reducible apply o_pickT); (iterate 4 rfl); (with_reducible refine Tri.nil (Tri.thenN ?_)); (with_reducible apply Tri.condT); rfl; rfl; (with_reducible refine Tri.seq (Tri.region ?_)); (with_reducible apply Tri.op); rfl; (with_reducible apply o_assign); rfl; rfl; (with_reducible refine Tri.nil (Tri.thenN (Tri.ret (Tri.thenR ?_)))))
        ((first | with_reducible apply Tri.fin | with_reducible apply Tri.finN); (case hr => rfl); (case h => exact ResL.cons (Res1.tmp rfl) (ResL.nil)); (apply fin_R (Hn := [])); (case p => exact (by (repeat first | exact Pulls.nil | (apply Pulls.cons; repeat first | with_reducible exact Pull.head | apply Pull.tail)))); exact ⟨by simp only [tupled]; (rw [entOk, g3, Bool.and_false]; rfl), rfl⟩)
      · have g3 : betw e.addr 2 511 = true := by simpa using h3
        ((with_reducible apply Tri.opYes); rfl; rfl; rfl; (with_reducible apply o_fieldAddr); rfl; rfl; (with_reducible apply Tri.opYes); rfl; rfl; rfl; (with_reducible apply o_load); rfl; (repeat first | with_reducible exact Pull.head | apply Pull.tail); rfl; rfl; (with_reducible apply Tri.opYes); rfl; rfl; rfl)
        ((with_reducible apply o_callV (hs := node_between e.len 1 65535)); (case hargs => (repeat first | exact evs.nil | (apply evs.cons; case a => rfl))); (case hpre => exact fun _ _ => trivial); (case hn => rfl))
        ((with_reducible apply Tri.opYes); rfl; rfl; rfl; (with_reducible apply o_not); rfl; rfl; (with_reducible apply Tri.op); rfl; (with_reducible apply o_pickF); (iterate 4 rfl); (with_reducible refine Tri.nil (Tri.thenN ?_)))
        ((first | with_reducible apply Tri.cond | with_reducible apply TriR.cond); (case hc => rfl); (all_goals intro h4))
        · have g4 : betw e.len 1 65535 = false := by simpa using h4
          ((with_reducible refine Tri.seq (Tri.region ?_)); (with_reducible apply Tri.op); rfl; (with_reducible apply o_assign); rfl; rfl; (with_reducible refine Tri.nil (Tri.thenN (Tri.ret (Tri.thenR ?_)))))
          ((first | with_reducible apply Tri.fin | with_reducible apply Tri.finN); (case hr => rfl); (case h => exact ResL.cons (Res1.tmp rfl) (ResL.nil)); (apply fin_R (Hn := [])); (case p => exact (by (repeat first | exact Pulls.nil | (apply Pulls.cons; repeat first | with_reducible exact Pull.head | apply Pull.tail)))); exact ⟨by simp only [tupled]; (rw [entOk, g4, Bool.and_false]; rfl), rfl⟩)
        · have g4 : betw e.len 1 65535 = true := by simpa using h4
          have g3' : 2 ≤ e.addr ∧ e.addr ≤ 511 := by simpa [betw] using g3
          have g4' : 1 ≤ e.len ∧ e.len ≤ 65535 := by simpa [betw] using g4
          have hpg : 0 ≤ pagesE e.len ∧ pagesE e.len ≤ 1000 := by unfold pagesE; omega
          have eh : entOk e = (decide (e.addr + pagesE e.len ≤ 512) && betw e.count 1 200 && betw e.codec 0 15) := by rw [entOk, g1, g3, g4, decide_eq_true (show e.key.2 ≤ e.fin by omega)]; rfl
          ((with_reducible refine Tri.skip (Tri.thenN (Tri.seq ?_))))
          ((with_reducible apply Tri.quiet); (case hB => kernel_rfl))
          ((first | ((with_reducible apply TriQ.op); rfl) | ((with_reducible apply TriQ.opYes); rfl; rfl; with_reducible rfl)); rfl; rfl; (intro K hK; (with_reducible apply o_fieldAddr); rfl; rfl; exact hK); (first | ((with_reducible apply TriQ.op); rfl) | ((with_reducible apply TriQ.opYes); rfl; rfl; with_reducible rfl)); rfl; rfl; (intro K hK; (with_reducible apply o_load); rfl; (repeat first | with_reducible exact Pull.head | apply Pull.tail); rfl; rfl; exact hK))
          ((first | ((with_reducible apply TriQ.op); (case hg => rfl)) | ((with_reducible apply TriQ.opYes); (case hg => rfl); (case hy => rfl); (case hb => with_reducible rfl))); (case hd => rfl); (case hn => rfl); (case h => (intro K hK; ((with_reducible apply o_loadAll (cs := entL e)); (case hx => rfl); (case p => (repeat first | with_reducible exact Pull.head | apply Pull.tail)); (case hl => rfl); (case hn => rfl)); exact hK)))
          ((first | ((with_reducible apply TriQ.op); (case hg => rfl)) | ((with_reducible apply TriQ.opYes); (case hg => rfl); (case hy => rfl); (case hb => with_reducible rfl))); (case hd => rfl); (case hn => rfl); (case h => (intro K hK; (with_reducible apply o_callV (hs := node_PagesE e ⟨by omega, by omega⟩)); (case hargs => (repeat first | exact evs.nil | (apply evs.cons; case a => rfl))); (case hpre => exact fun _ _ => trivial); (case hn => rfl); exact hK)))
          ((first | ((with_reducible apply TriQ.op); rfl) | ((with_reducible apply TriQ.opYes); rfl; rfl; with_reducible rfl)); rfl; rfl; (intro K hK; (with_reducible apply o_add64); rfl; rfl; rfl; (omega); exact hK); (first | ((with_reducible apply TriQ.op); rfl) | ((with_reducible apply TriQ.opYes); rfl; rfl; with_reducible rfl)); rfl; rfl; (intro K hK; (with_reducible apply o_leq); rfl; rfl; rfl; exact hK); (first | ((with_reducible apply TriQ.op); rfl) | ((with_reducible apply TriQ.opYes); rfl; rfl; with_reducible rfl)); rfl; rfl; (intro K hK; (with_reducible apply o_move); rfl; rfl; exact hK))
          ((with_reducible apply TriQ.casesB 33); (case h => rfl); (all_goals intro h5))
          · ((first | ((with_reducible apply TriQ.op); rfl) | ((with_reducible apply TriQ.opYes); rfl; rfl; with_reducible rfl)); rfl; rfl; (intro K hK; (with_reducible apply o_fieldAddr); rfl; rfl; exact hK); (first | ((with_reducible apply TriQ.op); rfl) | ((with_reducible apply TriQ.opYes); rfl; rfl; with_reducible rfl)); rfl; rfl; (intro K hK; (with_reducible apply o_load); rfl; (repeat first | with_reducible exact Pull.head | apply Pull.tail); rfl; rfl; exact hK))
            ((first | ((with_reducible apply TriQ.op); (case hg => rfl)) | ((with_reducible apply TriQ.opYes); (case hg => rfl); (case hy => rfl); (case hb => with_reducible rfl))); (case hd => rfl); (case hn => rfl); (case h => (intro K hK; (with_reducible apply o_callV (hs := node_between e.count 1 200)); (case hargs => (repeat first | exact evs.nil | (apply evs.cons; case a => rfl))); (case hpre => exact fun _ _ => trivial); (case hn => rfl); exact hK)))
            ((first | ((with_reducible apply TriQ.op); rfl) | ((with_reducible apply TriQ.opYes); rfl; rfl; with_reducible rfl)); rfl; rfl; (intro K hK; (with_reducible apply o_pickT); (iterate 4 rfl); exact hK); (first | ((with_reducible apply TriQ.op); rfl) | ((with_reducible apply TriQ.opYes); rfl; rfl; with_reducible rfl)); rfl; rfl; (intro K hK; (with_reducible apply o_move); rfl; rfl; exact hK))
            ((with_reducible apply TriQ.casesB 38); (case h => rfl); (all_goals intro h6))
            · ((first | ((with_reducible apply TriQ.op); rfl) | ((with_reducible apply TriQ.opYes); rfl; rfl; with_reducible rfl)); rfl; rfl; (intro K hK; (with_reducible apply o_fieldAddr); rfl; rfl; exact hK); (first | ((with_reducible apply TriQ.op); rfl) | ((with_reducible apply TriQ.opYes); rfl; rfl; with_reducible rfl)); rfl; rfl; (intro K hK; (with_reducible apply o_load); rfl; (repeat first | with_reducible exact Pull.head | apply Pull.tail); rfl; rfl; exact hK))
              ((first | ((with_reducible apply TriQ.op); (case hg => rfl)) | ((with_reducible apply TriQ.opYes); (case hg => rfl); (case hy => rfl); (case hb => with_reducible rfl))); (case hd => rfl); (case hn => rfl); (case h => (intro K hK; (with_reducible apply o_callV (hs := node_between e.codec 0 15)); (case hargs => (repeat first | exact evs.nil | (apply evs.cons; case a => rfl))); (case hpre => exact fun _ _ => trivial); (case hn => rfl); exact hK)))
              ((first | ((with_reducible apply TriQ.op); rfl) | ((with_reducible apply TriQ.opYes); rfl; rfl; with_reducible rfl)); rfl; rfl; (intro K hK; (with_reducible apply o_pickT); (iterate 4 rfl); exact hK); (first | ((with_reducible apply TriQ.op); rfl) | ((with_reducible apply TriQ.opYes); rfl; rfl; with_reducible rfl)); rfl; rfl; (intro K hK; (with_reducible apply o_assign); rfl; rfl; exact hK); (with_reducible refine TriQ.nil ?_))
              ((with_reducible refine Tri.thenN (Tri.ret ?_)))
              ((first | with_reducible apply Tri.fin | with_reducible apply Tri.finN); (case hr => rfl); (case h => exact ResL.cons (Res1.tmp rfl) (ResL.nil)); (apply fin_R (Hn := [])); (case p => exact (by (repeat first | exact Pulls.nil | (apply Pulls.cons; repeat first | with_reducible exact Pull.head | apply Pull.tail)))); exact ⟨by simp only [tupled]; (rw [eh, h5, h6]; rfl), rfl⟩)
            · ((iterate 3 (with_reducible apply TriQ.opNo (c := false)); (iterate 6 rfl)); (first | ((with_reducible apply TriQ.op); rfl) | ((with_reducible apply TriQ.opYes); rfl; rfl; with_reducible rfl)); rfl; rfl; (intro K hK; (with_reducible apply o_pickF); (iterate 4 rfl); exact hK); (first | ((with_reducible apply TriQ.op); rfl) | ((with_reducible apply TriQ.opYes); rfl; rfl; with_reducible rfl)); rfl; rfl; (intro K hK; (with_reducible apply o_assign); rfl; rfl; exact hK); (with_reducible refine TriQ.nil ?_))
              ((with_reducible refine Tri.thenN (Tri.ret ?_)))
              ((first | with_reducible apply Tri.fin | with_reducible apply Tri.finN); (case hr => rfl); (case h => exact ResL.cons (Res1.tmp rfl) (ResL.nil)); (apply fin_R (Hn := [])); (case p => exact (by (repeat first | exact Pulls.nil | (apply Pulls.cons; repeat first | with_reducible exact Pull.head | apply Pull.tail)))); exact ⟨by simp only [tupled]; (rw [eh, h5, h6]; rfl), rfl⟩)
          · ((iterate 3 (with_reducible apply TriQ.opNo (c := false)); (iterate 6 rfl)); (first | ((with_reducible apply TriQ.op); rfl) | ((with_reducible apply TriQ.opYes); rfl; rfl; with_reducible rfl)); rfl; rfl; (intro K hK; (with_reducible apply o_pickF); (iterate 4 rfl); exact hK); (first | ((with_reducible apply TriQ.op); rfl) | ((with_reducible apply TriQ.opYes); rfl; rfl; with_reducible rfl)); rfl; rfl; (intro K hK; (with_reducible apply o_move); rfl; rfl; exact hK); (iterate 3 (with_reducible apply TriQ.opNo (c := false)); (iterate 6 rfl)); (first | ((with_reducible apply TriQ.op); rfl) | ((with_reducible apply TriQ.opYes); rfl; rfl; with_reducible rfl)); rfl; rfl; (intro K hK; (with_reducible apply o_pickF); (iterate 4 rfl); exact hK); (first | ((with_reducible apply TriQ.op); rfl) | ((with_reducible apply TriQ.opYes); rfl; rfl; with_reducible rfl)); rfl; rfl; (intro K hK; (with_reducible apply o_assign); rfl; rfl; exact hK); (with_reducible refine TriQ.nil ?_))
            ((with_reducible refine Tri.thenN (Tri.ret ?_)))
            ((first | with_reducible apply Tri.fin | with_reducible apply Tri.finN); (case hr => rfl); (case h => exact ResL.cons (Res1.tmp rfl) (ResL.nil)); (apply fin_R (Hn := [])); (case p => exact (by (repeat first | exact Pulls.nil | (apply Pulls.cons; repeat first | with_reducible exact Pull.head | apply Pull.tail)))); exact ⟨by simp only [tupled]; (rw [eh, h5]; rfl), rfl⟩)
set_option maxHeartbeats 4000000 in
theorem node_leaf (v : Value) (E : List ENT) : SpecR Try.prog 106 #[v] (fun w => RdW w v E.length (EL E)) (fun r H' => r = .bool (leafB E) ∧ H' = []) := by
  refine SpecR.of (fun w hr => ?_)
  have hlen := hr.le
  refine Calls.enter Try.func106 rfl rfl rfl (St.rebase w) ?_
  simp only [argSlots]
  ((with_reducible refine Tri.seq (Tri.region ?_)); (with_reducible apply Tri.op); rfl; (with_reducible apply o_assign); rfl; rfl; (with_reducible refine Tri.nil (Tri.thenN (Tri.seq (Tri.seq (Tri.region ?_))))); (with_reducible apply Tri.op); rfl; (with_reducible apply o_move); rfl; rfl; (with_reducible apply Tri.op); rfl)
  ((with_reducible apply o_lenRd (hr := hr)); (case hx => rfl); (case hn => rfl))
  ((with_reducible apply Tri.op); rfl; (with_reducible apply o_move); rfl; rfl; (with_reducible refine Tri.nil (Tri.thenN (Tri.block ?_))))
  ((first | with_reducible apply Tri.loop (α := { i : Nat // i ≤ E.length ∧ entsTo E i = true }) (m := fun x => E.length - x.1) (Lx := fun x => [(0, v), (6, v), (7, .int .i64 (E.length : Int)), (8, .int .i64 (x.1 : Int))]) (Hx := fun x => [Ex (hp w)]) (x0 := ⟨0, Nat.zero_le _, rfl⟩) | with_reducible apply TriR.loop (α := { i : Nat // i ≤ E.length ∧ entsTo E i = true }) (m := fun x => E.length - x.1) (Lx := fun x => [(0, v), (6, v), (7, .int .i64 (E.length : Int)), (8, .int .i64 (x.1 : Int))]) (Hx := fun x => [Ex (hp w)]) (x0 := ⟨0, Nat.zero_le _, rfl⟩)); (case hL => ((try dsimp only); (repeat (first | exact trivial | refine And.intro (by rfl) ?_)))); (case hH => ((try dsimp only); apply St.all; (repeat first | exact Pulls.nil | (apply Pulls.cons; repeat first | with_reducible exact Pull.head | apply Pull.tail))))); (rintro ⟨i, hi, hE⟩ mx hmx; (try dsimp only at hmx ⊢))
  ((with_reducible refine Tri.seq (Tri.region ?_)); (with_reducible apply Tri.op); rfl; (with_reducible apply o_lss); rfl; rfl; rfl; (with_reducible refine Tri.nil (Tri.thenN (Tri.seq ?_))))
  ((first | with_reducible apply Tri.condD | with_reducible apply TriR.condD); (case hc => rfl); (all_goals intro h))
  · have hil : i < E.length := by omega
    obtain ⟨e, he⟩ : ∃ e, e = E.getD i ent0 := ⟨_, rfl⟩
    have h8 := EL_eight E i hil
    rw [← he] at h8
    ((with_reducible refine Tri.skip (Tri.thenN (Tri.seq (Tri.block (Tri.seq (Tri.region ?_)))))); (with_reducible apply Tri.op); rfl; (with_reducible apply o_move); rfl; rfl; (with_reducible apply Tri.op); rfl)
    ((with_reducible apply o_ixRd (hr := hr) (j := i)); (case hx => rfl); (case hy => rfl); (case hj => rfl); (case hlt => exact hil); (case hl => (rw [EL_length]; omega)); (case hn => rfl))
    ((with_reducible apply Tri.op); rfl)
    ((with_reducible apply o_loadAggRd (hr := hr)); (case hx => rfl); (case p => (repeat first | with_reducible exact Pull.head | apply Pull.tail)); (case hv => exact h8); (case hl => rfl); (case hn => rfl))
    ((with_reducible apply Tri.op); rfl)
    ((with_reducible apply o_alloc); (case hn => rfl); intro b4)
    ((with_reducible apply Tri.op); rfl; (with_reducible apply o_assign); rfl; rfl; (with_reducible apply Tri.op); rfl)
    ((with_reducible apply o_storeAll (ys := entL e)); (case hx => rfl); (case hy => rfl); (case p => (repeat first | with_reducible exact Pull.head | apply Pull.tail)); (case hl => rfl); (case hc => rfl); (case h1 => exact entL_one _))
    ((with_reducible refine Tri.nil (Tri.thenN (Tri.seq (Tri.seq (Tri.region ?_))))); (with_reducible apply Tri.op); rfl)
    ((with_reducible apply o_loadAll (cs := entL e)); (case hx => rfl); (case p => (repeat first | with_reducible exact Pull.head | apply Pull.tail)); (case hl => rfl); (case hn => rfl))
    ((with_reducible apply Tri.op); rfl)
    ((with_reducible apply o_callV (hs := node_rightEntry e)); (case hargs => (repeat first | exact evs.nil | (apply evs.cons; case a => rfl))); (case hpre => exact fun _ _ => trivial); (case hn => rfl))
    ((with_reducible apply Tri.op); rfl; (with_reducible apply o_not); rfl; rfl; (with_reducible refine Tri.nil (Tri.thenN ?_)))
    ((first | with_reducible apply Tri.cond | with_reducible apply TriR.cond); (case hc => rfl); (all_goals intro g1))
    · have g1' : entOk e = false := by simpa using g1
      ((with_reducible refine Tri.seq (Tri.region ?_)); (with_reducible apply Tri.op); rfl; (with_reducible apply o_assign); rfl; rfl; (with_reducible refine Tri.nil (Tri.thenN (Tri.ret (Tri.thenR (Tri.blockR (Tri.thenR (Tri.thenR (Tri.blockR (Tri.thenR ?_))))))))))
      ((first | with_reducible apply Tri.fin | with_reducible apply Tri.finN); (case hr => rfl); (case h => exact ResL.cons (Res1.tmp rfl) (ResL.nil)); (apply fin_R (Hn := [])); (case p => exact (by (repeat first | exact Pulls.nil | (apply Pulls.cons; repeat first | with_reducible exact Pull.head | apply Pull.tail)))); exact ⟨by simp only [tupled]; (rw [leaf_no (entAt_lt (by rw [entAt, ← he, g1']; rfl) hil)]), rfl⟩)
    · have g1' : entOk e = true := by simpa using g1
      ((with_reducible refine Tri.skip (Tri.thenN (Tri.seq (Tri.seq (Tri.region ?_))))); (with_reducible apply Tri.op); rfl; (with_reducible apply o_move); rfl; rfl; (with_reducible apply Tri.op); rfl; (with_reducible apply o_eql); rfl; rfl; rfl; (with_reducible refine Tri.nil (Tri.thenN ?_)))
      ((first | with_reducible apply Tri.condD | with_reducible apply TriR.condD); (case hc => rfl); (all_goals intro g2))
      · have hnx : entsTo E (i + 1) = true := by rw [entsTo, hE, entAt, ← he, g1', decide_eq_true (show i = 0 by omega)]; simp
        ((with_reducible refine Tri.exit (Tri.thenE (Tri.blockE (Tri.thenN (Tri.region ?_))))); (with_reducible apply Tri.op); rfl; (with_reducible apply o_add64); rfl; rfl; rfl; (omega); (with_reducible apply Tri.op); rfl; (with_reducible apply o_move); rfl; rfl; (with_reducible refine Tri.nil (Tri.thenN ?_)))
        ((with_reducible apply Tri.again (y := ⟨i + 1, by omega, hnx⟩)); (case p => ((try dsimp only); (repeat first | exact Pulls.nil | (apply Pulls.cons; repeat first | with_reducible exact Pull.head | apply Pull.tail)))); (case hm => ((try dsimp only); omega)); (try dsimp only))
        (repeat (first | exact trivial | refine And.intro (by rfl) ?_))
      · obtain ⟨p, hp0⟩ : ∃ e, e = E.getD (i - 1) ent0 := ⟨_, rfl⟩
        have h8p := EL_eight E (i - 1) (by omega)
        rw [← hp0] at h8p
        have eat : entAt E i = afterE p e := by rw [entAt, ← he, ← hp0, g1', decide_eq_false (show ¬ i = 0 by omega)]; simp
        ((with_reducible refine Tri.skip (Tri.thenN (Tri.seq (Tri.region ?_)))); (with_reducible apply Tri.op); rfl; (with_reducible apply o_move); rfl; rfl; (with_reducible apply Tri.op); rfl; (with_reducible apply o_move); rfl; rfl; (with_reducible apply Tri.op); rfl; (with_reducible apply o_sub64); rfl; rfl; rfl; (omega); (with_reducible apply Tri.op); rfl)
        ((with_reducible apply o_ixRd (hr := hr) (j := i - 1)); (case hx => rfl); (case hy => rfl); (case hj => omega); (case hlt => omega); (case hl => (rw [EL_length]; omega)); (case hn => rfl))
        ((with_reducible apply Tri.op); rfl)
        ((with_reducible apply o_loadAggRd (hr := hr)); (case hx => rfl); (case p => (repeat first | with_reducible exact Pull.head | apply Pull.tail)); (case hv => exact h8p); (case hl => rfl); (case hn => rfl))
        ((with_reducible apply Tri.op); rfl)
        ((with_reducible apply o_alloc); (case hn => rfl); intro b5)
        ((with_reducible apply Tri.op); rfl)
        ((with_reducible apply o_storeAll (ys := entL p)); (case hx => rfl); (case hy => rfl); (case p => (repeat first | with_reducible exact Pull.head | apply Pull.tail)); (case hl => rfl); (case hc => rfl); (case h1 => exact entL_one _))
        ((with_reducible refine Tri.nil (Tri.thenN (Tri.seq (Tri.region ?_)))); (with_reducible apply Tri.op); rfl; (with_reducible apply o_fieldAddr); rfl; rfl; (with_reducible apply Tri.op); rfl)
        ((with_reducible apply o_loadAgg (ys := keyL p.key)); (case hx => rfl); (case p => exact (by exact Pull.head)); (case hv => rfl); (case hl => rfl); (case hn => rfl))
        ((with_reducible apply Tri.op); rfl; (with_reducible apply o_fieldAddr); rfl; rfl; (with_reducible apply Tri.op); rfl)
        ((with_reducible apply o_loadAgg (ys := keyL e.key)); (case hx => rfl); (case p => (repeat first | with_reducible exact Pull.head | apply Pull.tail)); (case hv => rfl); (case hl => rfl); (case hn => rfl))
        ((with_reducible apply Tri.op); rfl)
        ((with_reducible apply o_callV (hs := node_Less p.key e.key)); (case hargs => (repeat first | exact evs.nil | (apply evs.cons; case a => rfl))); (case hpre => exact fun _ _ => trivial); (case hn => rfl))
        ((with_reducible apply Tri.op); rfl; (with_reducible apply o_not); rfl; rfl; (with_reducible apply Tri.op); rfl; (with_reducible apply o_move); rfl; rfl)
        ((with_reducible apply Tri.casesB 29); (case h => rfl); (all_goals intro g3))
        · have g3' : lessK p.key e.key = false := by simpa using g3
          ((iterate 8 (with_reducible apply Tri.opNo (c := true)); (iterate 6 rfl)); (iterate 6 (with_reducible apply Tri.opNoU); (iterate 4 rfl)); (with_reducible apply Tri.opNo (c := true)); (iterate 6 rfl); (with_reducible apply Tri.op); rfl; (with_reducible apply o_pickT); (iterate 4 rfl); (with_reducible refine Tri.nil (Tri.thenN ?_)); (with_reducible apply Tri.condT); rfl; rfl; (with_reducible refine Tri.seq (Tri.region ?_)); (with_reducible apply Tri.op); rfl; (with_reducible apply o_assign); rfl; rfl; (with_reducible refine Tri.nil (Tri.thenN (Tri.ret (Tri.blockR (Tri.thenR (Tri.thenR (Tri.blockR (Tri.thenR ?_)))))))))
          ((first | with_reducible apply Tri.fin | with_reducible apply Tri.finN); (case hr => rfl); (case h => exact ResL.cons (Res1.tmp rfl) (ResL.nil)); (apply fin_R (Hn := [])); (case p => exact (by (repeat first | exact Pulls.nil | (apply Pulls.cons; repeat first | with_reducible exact Pull.head | apply Pull.tail)))); exact ⟨by simp only [tupled]; (rw [leaf_no (entAt_lt (by rw [eat, afterE, g3']; rfl) hil)]), rfl⟩)
        · have g3' : lessK p.key e.key = true := by simpa using g3
          ((with_reducible apply Tri.opYes); rfl; rfl; rfl; (with_reducible apply o_fieldAddr); rfl; rfl; (with_reducible apply Tri.opYes); rfl; rfl; rfl; (with_reducible apply o_fieldAddr); rfl; rfl; (with_reducible apply Tri.opYes); rfl; rfl; rfl; (with_reducible apply o_load); rfl; (repeat first | with_reducible exact Pull.head | apply Pull.tail); rfl; rfl; (with_reducible apply Tri.opYes); rfl; rfl; rfl; (with_reducible apply o_fieldAddr); rfl; rfl; (with_reducible apply Tri.opYes); rfl; rfl; rfl; (with_reducible apply o_fieldAddr); rfl; rfl; (with_reducible apply Tri.opYes); rfl; rfl; rfl; (with_reducible apply o_load); rfl; (repeat first | with_reducible exact Pull.head | apply Pull.tail); rfl; rfl; (with_reducible apply Tri.opYes); rfl; rfl; rfl; (with_reducible apply o_eql); rfl; rfl; rfl; (with_reducible apply Tri.opYes); rfl; rfl; rfl; (with_reducible apply o_move); rfl; rfl)
          ((with_reducible apply Tri.casesB 37); (case h => rfl); (all_goals intro g4))
          · have g4' := of_decide_eq_true g4
            ((with_reducible apply Tri.opYes); rfl; rfl; rfl; (with_reducible apply o_fieldAddr); rfl; rfl; (with_reducible apply Tri.opYes); rfl; rfl; rfl; (with_reducible apply o_load); rfl; (repeat first | with_reducible exact Pull.head | apply Pull.tail); rfl; rfl; (with_reducible apply Tri.opYes); rfl; rfl; rfl; (with_reducible apply o_fieldAddr); rfl; rfl; (with_reducible apply Tri.opYes); rfl; rfl; rfl; (with_reducible apply o_fieldAddr); rfl; rfl; (with_reducible apply Tri.opYes); rfl; rfl; rfl; (with_reducible apply o_load); rfl; (repeat first | with_reducible exact Pull.head | apply Pull.tail); rfl; rfl; (with_reducible apply Tri.opYes); rfl; rfl; rfl; (with_reducible apply o_geq); rfl; rfl; rfl; (with_reducible apply Tri.opYes); rfl; rfl; rfl; (with_reducible apply o_pickT); (iterate 4 rfl); (with_reducible apply Tri.op); rfl; (with_reducible apply o_pickF); (iterate 4 rfl); (with_reducible refine Tri.nil (Tri.thenN ?_)))
            ((first | with_reducible apply Tri.condD | with_reducible apply TriR.condD); (case hc => rfl); (all_goals intro g5))
            · ((with_reducible refine Tri.seq (Tri.region ?_)); (with_reducible apply Tri.op); rfl; (with_reducible apply o_assign); rfl; rfl; (with_reducible refine Tri.nil (Tri.thenN (Tri.ret (Tri.blockR (Tri.thenR (Tri.thenR (Tri.blockR (Tri.thenR ?_)))))))))
              ((first | with_reducible apply Tri.fin | with_reducible apply Tri.finN); (case hr => rfl); (case h => exact ResL.cons (Res1.tmp rfl) (ResL.nil)); (apply fin_R (Hn := [])); (case p => exact (by (repeat first | exact Pulls.nil | (apply Pulls.cons; repeat first | with_reducible exact Pull.head | apply Pull.tail)))); exact ⟨by simp only [tupled]; (rw [leaf_no (entAt_lt (by rw [eat, afterE, g3', decide_eq_true g4', decide_eq_true (show e.key.2 ≤ p.fin by omega)]; rfl) hil)]), rfl⟩)
            · have hnx : entsTo E (i + 1) = true := by rw [entsTo, hE, eat, afterE, g3', decide_eq_true g4', decide_eq_false (show ¬ e.key.2 ≤ p.fin by omega)]; rfl
              ((with_reducible refine Tri.skip (Tri.blockN (Tri.thenN (Tri.region ?_)))); (with_reducible apply Tri.op); rfl; (with_reducible apply o_add64); rfl; rfl; rfl; (omega); (with_reducible apply Tri.op); rfl; (with_reducible apply o_move); rfl; rfl; (with_reducible refine Tri.nil (Tri.thenN ?_)))
              ((with_reducible apply Tri.again (y := ⟨i + 1, by omega, hnx⟩)); (case p => ((try dsimp only); (repeat first | exact Pulls.nil | (apply Pulls.cons; repeat first | with_reducible exact Pull.head | apply Pull.tail)))); (case hm => ((try dsimp only); omega)); (try dsimp only))
              (repeat (first | exact trivial | refine And.intro (by rfl) ?_))
          · have g4' := of_decide_eq_false g4
            have hnx : entsTo E (i + 1) = true := by rw [entsTo, hE, eat, afterE, g3', decide_eq_false g4']; rfl
            ((iterate 6 (with_reducible apply Tri.opNo (c := false)); (iterate 6 rfl)); (with_reducible apply Tri.opYes); rfl; rfl; rfl; (with_reducible apply o_pickF); (iterate 4 rfl); (with_reducible apply Tri.op); rfl; (with_reducible apply o_pickF); (iterate 4 rfl); (with_reducible refine Tri.nil (Tri.thenN ?_)); (with_reducible apply Tri.condF); rfl; rfl; (with_reducible refine Tri.skip (Tri.blockN (Tri.thenN (Tri.region ?_)))); (with_reducible apply Tri.op); rfl; (with_reducible apply o_add64); rfl; rfl; rfl; (omega); (with_reducible apply Tri.op); rfl; (with_reducible apply o_move); rfl; rfl; (with_reducible refine Tri.nil (Tri.thenN ?_)))
            ((with_reducible apply Tri.again (y := ⟨i + 1, by omega, hnx⟩)); (case p => ((try dsimp only); (repeat first | exact Pulls.nil | (apply Pulls.cons; repeat first | with_reducible exact Pull.head | apply Pull.tail)))); (case hm => ((try dsimp only); omega)); (try dsimp only))
            (repeat (first | exact trivial | refine And.intro (by rfl) ?_))
  · obtain rfl : i = E.length := by omega
    ((with_reducible refine Tri.exit (Tri.thenE (Tri.thenE (Tri.blockE (Tri.thenN (Tri.seq (Tri.region ?_))))))); (with_reducible apply Tri.op); rfl; (with_reducible apply o_move); rfl; rfl; (with_reducible apply Tri.op); rfl)
    ((with_reducible apply o_lenRd (hr := hr)); (case hx => rfl); (case hn => rfl))
    ((with_reducible apply Tri.op); rfl)
    ((with_reducible apply o_callV (hs := node_between (E.length : Int) 1 7)); (case hargs => (repeat first | exact evs.nil | (apply evs.cons; case a => rfl))); (case hpre => exact fun _ _ => trivial); (case hn => rfl))
    ((with_reducible apply Tri.op); rfl; (with_reducible apply o_assign); rfl; rfl; (with_reducible refine Tri.nil (Tri.thenN (Tri.ret ?_))))
    ((first | with_reducible apply Tri.fin | with_reducible apply Tri.finN); (case hr => rfl); (case h => exact ResL.cons (Res1.tmp rfl) (ResL.nil)); (apply fin_R (Hn := [])); (case p => exact (by (repeat first | exact Pulls.nil | (apply Pulls.cons; repeat first | with_reducible exact Pull.head | apply Pull.tail)))); exact ⟨by simp only [tupled]; (rw [leafB, hE]; rfl), rfl⟩)
def ndR (w : World) (ev kv dv : Value) (E : List ENT) (K : List KEY) (D : List Int) : Prop := RdW w ev E.length (EL E) ∧ RdW w kv K.length (KL K) ∧ RdW w dv D.length (NL D)
theorem ndR_ex {w0 : World} {H H1 : List Atom} {h0 : PH} {ev kv dv : Value} {E : List ENT} {K : List KEY} {D : List Int} (p : Pull H (Ex h0) H1) (h1 : Rd h0 ev E.length (EL E)) (h2 : Rd h0 kv K.length (KL K)) (h3 : Rd h0 dv D.length (NL D)) : ∀ w, St w0 w H → ndR w ev kv dv E K D := fun w hw => ⟨rdw_ex p h1 w hw, rdw_ex p h2 w hw, rdw_ex p h3 w hw⟩
set_option maxHeartbeats 4000000 in
theorem node_Right (leaf : Bool) (ev kv dv : Value) (E : List ENT) (K : List KEY) (D : List Int) : SpecR Try.prog 74 #[ndW leaf ev kv dv] (fun w => ndR w ev kv dv E K D) (fun r H' => r = .bool (rightN leaf E K D) ∧ H' = []) := by
  refine SpecR.of (fun w hrr => ?_)
  obtain ⟨hr0, hr1, hr2⟩ := hrr
  refine Calls.enter Try.func74 rfl rfl rfl (St.rebase w) ?_
  simp only [argSlots]
  ((with_reducible refine Tri.seq (Tri.region ?_)); (with_reducible apply Tri.op); rfl)
  (first | ((with_reducible apply o_boxA); (case hx => rfl); (case hn => rfl); intro b1) | ((with_reducible apply o_box1); (case hx => rfl); (case h1 => rfl); (case hn => rfl); intro b1))
  ((with_reducible apply Tri.op); rfl; (with_reducible apply o_assign); rfl; rfl; (with_reducible refine Tri.nil (Tri.thenN (Tri.seq (Tri.seq (Tri.region ?_))))); (with_reducible apply Tri.op); rfl; (with_reducible apply o_fieldAddr); rfl; rfl; (with_reducible apply Tri.op); rfl; (with_reducible apply o_load); rfl; (repeat first | with_reducible exact Pull.head | apply Pull.tail); rfl; rfl; (with_reducible refine Tri.nil (Tri.thenN ?_)))
  ((first | with_reducible apply Tri.cond | with_reducible apply TriR.cond); (case hc => rfl); (all_goals intro hlf))
  · subst hlf
    ((with_reducible refine Tri.seq (Tri.region ?_)); (with_reducible apply Tri.op); rfl; (with_reducible apply o_fieldAddr); rfl; rfl; (with_reducible apply Tri.op); rfl; (with_reducible apply o_load); rfl; (repeat first | with_reducible exact Pull.head | apply Pull.tail); rfl; rfl; (with_reducible apply Tri.op); rfl)
    ((with_reducible apply o_lenRd (hr := hr1)); (case hx => rfl); (case hn => rfl))
    ((with_reducible apply Tri.op); rfl; (with_reducible apply o_eql); rfl; rfl; rfl; (with_reducible apply Tri.op); rfl; (with_reducible apply o_move); rfl; rfl)
    ((with_reducible apply Tri.casesB 9); (case h => rfl); (all_goals intro g1))
    · ((with_reducible apply Tri.opYes); rfl; rfl; rfl; (with_reducible apply o_fieldAddr); rfl; rfl; (with_reducible apply Tri.opYes); rfl; rfl; rfl; (with_reducible apply o_load); rfl; (repeat first | with_reducible exact Pull.head | apply Pull.tail); rfl; rfl; (with_reducible apply Tri.opYes); rfl; rfl; rfl)
      ((with_reducible apply o_lenRd (hr := hr2)); (case hx => rfl); (case hn => rfl))
      ((with_reducible apply Tri.opYes); rfl; rfl; rfl; (with_reducible apply o_eql); rfl; rfl; rfl; (with_reducible apply Tri.op); rfl; (with_reducible apply o_pickT); (iterate 4 rfl); (with_reducible apply Tri.op); rfl; (with_reducible apply o_move); rfl; rfl)
      ((with_reducible apply Tri.casesB 15); (case h => rfl); (all_goals intro g2))
      · ((with_reducible apply Tri.opYes); rfl; rfl; rfl; (with_reducible apply o_fieldAddr); rfl; rfl; (with_reducible apply Tri.opYes); rfl; rfl; rfl; (with_reducible apply o_load); rfl; (repeat first | with_reducible exact Pull.head | apply Pull.tail); rfl; rfl; (with_reducible apply Tri.opYes); rfl; rfl; rfl)
        ((with_reducible apply o_callV (hs := node_leaf ev E)); (case hargs => (repeat first | exact evs.nil | (apply evs.cons; case a => rfl))); (case hpre => exact rdw_ex (by (repeat first | with_reducible exact Pull.head | apply Pull.tail)) hr0); (case hn => rfl))
        ((with_reducible apply Tri.op); rfl; (with_reducible apply o_pickT); (iterate 4 rfl); (with_reducible apply Tri.op); rfl; (with_reducible apply o_assign); rfl; rfl; (with_reducible refine Tri.nil (Tri.thenN (Tri.ret (Tri.thenR ?_)))))
        ((first | with_reducible apply Tri.fin | with_reducible apply Tri.finN); (case hr => rfl); (case h => exact ResL.cons (Res1.tmp rfl) (ResL.nil)); (apply fin_R (Hn := [])); (case p => exact (by (repeat first | exact Pulls.nil | (apply Pulls.cons; repeat first | with_reducible exact Pull.head | apply Pull.tail)))); exact ⟨by simp only [tupled]; (rw [rightN, if_pos rfl, decide_eq_true (show K.length = 0 by have := of_decide_eq_true g1; omega), decide_eq_true (show D.length = 0 by have := of_decide_eq_true g2; omega)]; rfl), rfl⟩)
      · ((iterate 3 (with_reducible apply Tri.opNo (c := false)); (iterate 6 rfl)); (with_reducible apply Tri.op); rfl; (with_reducible apply o_pickF); (iterate 4 rfl); (with_reducible apply Tri.op); rfl; (with_reducible apply o_assign); rfl; rfl; (with_reducible refine Tri.nil (Tri.thenN (Tri.ret (Tri.thenR ?_)))))
        ((first | with_reducible apply Tri.fin | with_reducible apply Tri.finN); (case hr => rfl); (case h => exact ResL.cons (Res1.tmp rfl) (ResL.nil)); (apply fin_R (Hn := [])); (case p => exact (by (repeat first | exact Pulls.nil | (apply Pulls.cons; repeat first | with_reducible exact Pull.head | apply Pull.tail)))); exact ⟨by simp only [tupled]; (rw [rightN, if_pos rfl, decide_eq_false (show ¬ D.length = 0 by have := of_decide_eq_false g2; omega), Bool.false_and, Bool.and_false]), rfl⟩)
    · ((iterate 4 (with_reducible apply Tri.opNo (c := false)); (iterate 6 rfl)); (with_reducible apply Tri.op); rfl; (with_reducible apply o_pickF); (iterate 4 rfl); (with_reducible apply Tri.op); rfl; (with_reducible apply o_move); rfl; rfl; (iterate 3 (with_reducible apply Tri.opNo (c := false)); (iterate 6 rfl)); (with_reducible apply Tri.op); rfl; (with_reducible apply o_pickF); (iterate 4 rfl); (with_reducible apply Tri.op); rfl; (with_reducible apply o_assign); rfl; rfl; (with_reducible refine Tri.nil (Tri.thenN (Tri.ret (Tri.thenR ?_)))))
      ((first | with_reducible apply Tri.fin | with_reducible apply Tri.finN); (case hr => rfl); (case h => exact ResL.cons (Res1.tmp rfl) (ResL.nil)); (apply fin_R (Hn := [])); (case p => exact (by (repeat first | exact Pulls.nil | (apply Pulls.cons; repeat first | with_reducible exact Pull.head | apply Pull.tail)))); exact ⟨by simp only [tupled]; (rw [rightN, if_pos rfl, decide_eq_false (show ¬ K.length = 0 by have := of_decide_eq_false g1; omega), Bool.false_and]), rfl⟩)
  · subst hlf
    ((with_reducible refine Tri.skip (Tri.thenN (Tri.seq (Tri.region ?_)))); (with_reducible apply Tri.op); rfl; (with_reducible apply o_fieldAddr); rfl; rfl; (with_reducible apply Tri.op); rfl; (with_reducible apply o_load); rfl; (repeat first | with_reducible exact Pull.head | apply Pull.tail); rfl; rfl; (with_reducible apply Tri.op); rfl)
    ((with_reducible apply o_lenRd (hr := hr0)); (case hx => rfl); (case hn => rfl))
    ((with_reducible apply Tri.op); rfl; (with_reducible apply o_eql); rfl; rfl; rfl; (with_reducible apply Tri.op); rfl; (with_reducible apply o_move); rfl; rfl)
    ((with_reducible apply Tri.casesB 24); (case h => rfl); (all_goals intro g1))
    · ((with_reducible apply Tri.opYes); rfl; rfl; rfl; (with_reducible apply o_fieldAddr); rfl; rfl; (with_reducible apply Tri.opYes); rfl; rfl; rfl; (with_reducible apply o_load); rfl; (repeat first | with_reducible exact Pull.head | apply Pull.tail); rfl; rfl; (with_reducible apply Tri.opYes); rfl; rfl; rfl; (with_reducible apply o_fieldAddr); rfl; rfl; (with_reducible apply Tri.opYes); rfl; rfl; rfl; (with_reducible apply o_load); rfl; (repeat first | with_reducible exact Pull.head | apply Pull.tail); rfl; rfl; (with_reducible apply Tri.opYes); rfl; rfl; rfl)
      ((with_reducible apply o_callV (hs := node_inner kv dv K D)); (case hargs => (repeat first | exact evs.nil | (apply evs.cons; case a => rfl))); (case hpre => exact fun w' hw' => ⟨rdw_ex (by (repeat first | with_reducible exact Pull.head | apply Pull.tail)) hr1 w' hw', rdw_ex (by (repeat first | with_reducible exact Pull.head | apply Pull.tail)) hr2 w' hw'⟩); (case hn => rfl))
      ((with_reducible apply Tri.op); rfl; (with_reducible apply o_pickT); (iterate 4 rfl); (with_reducible apply Tri.op); rfl; (with_reducible apply o_assign); rfl; rfl; (with_reducible refine Tri.nil (Tri.thenN (Tri.ret ?_))))
      ((first | with_reducible apply Tri.fin | with_reducible apply Tri.finN); (case hr => rfl); (case h => exact ResL.cons (Res1.tmp rfl) (ResL.nil)); (apply fin_R (Hn := [])); (case p => exact (by (repeat first | exact Pulls.nil | (apply Pulls.cons; repeat first | with_reducible exact Pull.head | apply Pull.tail)))); exact ⟨by simp only [tupled]; (rw [rightN, if_neg (by simp), decide_eq_true (show E.length = 0 by have := of_decide_eq_true g1; omega)]; rfl), rfl⟩)
    · ((iterate 5 (with_reducible apply Tri.opNo (c := false)); (iterate 6 rfl)); (with_reducible apply Tri.op); rfl; (with_reducible apply o_pickF); (iterate 4 rfl); (with_reducible apply Tri.op); rfl; (with_reducible apply o_assign); rfl; rfl; (with_reducible refine Tri.nil (Tri.thenN (Tri.ret ?_))))
      ((first | with_reducible apply Tri.fin | with_reducible apply Tri.finN); (case hr => rfl); (case h => exact ResL.cons (Res1.tmp rfl) (ResL.nil)); (apply fin_R (Hn := [])); (case p => exact (by (repeat first | exact Pulls.nil | (apply Pulls.cons; repeat first | with_reducible exact Pull.head | apply Pull.tail)))); exact ⟨by simp only [tupled]; (rw [rightN, if_neg (by simp), decide_eq_false (show ¬ E.length = 0 by have := of_decide_eq_false g1; omega), Bool.false_and]), rfl⟩)
def sizeN (leaf : Bool) (E : List ENT) (D : List Int) : Nat := if leaf then E.length else D.length
set_option maxHeartbeats 1000000 in
theorem node_Size (leaf : Bool) (ev kv dv : Value) (E : List ENT) (K : List KEY) (D : List Int) : SpecR Try.prog 13 #[ndW leaf ev kv dv] (fun w => ndR w ev kv dv E K D) (fun r H' => r = .int .i64 (sizeN leaf E D : Int) ∧ H' = []) := by
  refine SpecR.of (fun w hrr => ?_)
  obtain ⟨hr0, hr1, hr2⟩ := hrr
  refine Calls.enter Try.func13 rfl rfl rfl (St.rebase w) ?_
  simp only [argSlots]
  ((with_reducible refine Tri.seq (Tri.region ?_)); (with_reducible apply Tri.op); rfl)
  (first | ((with_reducible apply o_boxA); (case hx => rfl); (case hn => rfl); intro b1) | ((with_reducible apply o_box1); (case hx => rfl); (case h1 => rfl); (case hn => rfl); intro b1))
  ((with_reducible apply Tri.op); rfl; (with_reducible apply o_assign); rfl; rfl; (with_reducible refine Tri.nil (Tri.thenN (Tri.seq (Tri.seq (Tri.region ?_))))); (with_reducible apply Tri.op); rfl; (with_reducible apply o_fieldAddr); rfl; rfl; (with_reducible apply Tri.op); rfl; (with_reducible apply o_load); rfl; (repeat first | with_reducible exact Pull.head | apply Pull.tail); rfl; rfl; (with_reducible refine Tri.nil (Tri.thenN ?_)))
  ((first | with_reducible apply Tri.cond | with_reducible apply TriR.cond); (case hc => rfl); (all_goals intro hlf))
  · subst hlf
    ((with_reducible refine Tri.seq (Tri.region ?_)); (with_reducible apply Tri.op); rfl; (with_reducible apply o_fieldAddr); rfl; rfl; (with_reducible apply Tri.op); rfl; (with_reducible apply o_load); rfl; (repeat first | with_reducible exact Pull.head | apply Pull.tail); rfl; rfl; (with_reducible apply Tri.op); rfl)
    ((with_reducible apply o_lenRd (hr := hr0)); (case hx => rfl); (case hn => rfl))
    ((with_reducible apply Tri.op); rfl; (with_reducible apply o_assign); rfl; rfl; (with_reducible refine Tri.nil (Tri.thenN (Tri.ret (Tri.thenR ?_)))))
    ((first | with_reducible apply Tri.fin | with_reducible apply Tri.finN); (case hr => rfl); (case h => exact ResL.cons (Res1.tmp rfl) (ResL.nil)); (apply fin_R (Hn := [])); (case p => exact (by (repeat first | exact Pulls.nil | (apply Pulls.cons; repeat first | with_reducible exact Pull.head | apply Pull.tail)))); exact ⟨by simp only [tupled]; rfl, rfl⟩)
  · subst hlf
    ((with_reducible refine Tri.skip (Tri.thenN (Tri.seq (Tri.region ?_)))); (with_reducible apply Tri.op); rfl; (with_reducible apply o_fieldAddr); rfl; rfl; (with_reducible apply Tri.op); rfl; (with_reducible apply o_load); rfl; (repeat first | with_reducible exact Pull.head | apply Pull.tail); rfl; rfl; (with_reducible apply Tri.op); rfl)
    ((with_reducible apply o_lenRd (hr := hr2)); (case hx => rfl); (case hn => rfl))
    ((with_reducible apply Tri.op); rfl; (with_reducible apply o_assign); rfl; rfl; (with_reducible refine Tri.nil (Tri.thenN (Tri.ret ?_))))
    ((first | with_reducible apply Tri.fin | with_reducible apply Tri.finN); (case hr => rfl); (case h => exact ResL.cons (Res1.tmp rfl) (ResL.nil)); (apply fin_R (Hn := [])); (case p => exact (by (repeat first | exact Pulls.nil | (apply Pulls.cons; repeat first | with_reducible exact Pull.head | apply Pull.tail)))); exact ⟨by simp only [tupled]; rfl, rfl⟩)
def leastN (leaf : Bool) (E : List ENT) (K : List KEY) : KEY := if leaf then (E.getD 0 ent0).key else K.getD 0 (0, 0)
set_option maxHeartbeats 4000000 in
theorem node_Least (leaf : Bool) (ev kv dv : Value) (E : List ENT) (K : List KEY) (D : List Int) : SpecR Try.prog 130 #[ndW leaf ev kv dv] (fun w => ndR w ev kv dv E K D) (fun r H' => r = keyV (leastN leaf E K) ∧ H' = []) := by
  refine SpecR.of (fun w hrr => ?_)
  obtain ⟨hr0, hr1, hr2⟩ := hrr
  refine Calls.enter Try.func130 rfl rfl rfl (St.rebase w) ?_
  simp only [argSlots]
  ((with_reducible refine Tri.seq (Tri.region ?_)); (with_reducible apply Tri.op); rfl)
  (first | ((with_reducible apply o_boxA); (case hx => rfl); (case hn => rfl); intro b1) | ((with_reducible apply o_box1); (case hx => rfl); (case h1 => rfl); (case hn => rfl); intro b1))
  ((with_reducible apply Tri.op); rfl)
  ((with_reducible apply o_alloc); (case hn => rfl); intro b2)
  ((with_reducible refine Tri.nil (Tri.thenN (Tri.seq (Tri.block (Tri.seq (Tri.region ?_)))))); (with_reducible apply Tri.op); rfl; (with_reducible apply o_fieldAddr); rfl; rfl; (with_reducible apply Tri.op); rfl; (with_reducible apply o_load); rfl; (repeat first | with_reducible exact Pull.head | apply Pull.tail); rfl; rfl; (with_reducible apply Tri.op); rfl; (with_reducible apply o_move); rfl; rfl)
  ((with_reducible apply Tri.casesB 6); (case h => rfl); (all_goals intro hlf))
  · subst hlf
    ((with_reducible apply Tri.opYes); rfl; rfl; rfl; (with_reducible apply o_fieldAddr); rfl; rfl; (with_reducible apply Tri.opYes); rfl; rfl; rfl; (with_reducible apply o_load); rfl; (repeat first | with_reducible exact Pull.head | apply Pull.tail); rfl; rfl; (with_reducible apply Tri.opYes); rfl; rfl; rfl)
    ((with_reducible apply o_lenRd (hr := hr0)); (case hx => rfl); (case hn => rfl))
    ((with_reducible apply Tri.opYes); rfl; rfl; rfl; (with_reducible apply o_gtr); rfl; rfl; rfl; (with_reducible apply Tri.op); rfl; (with_reducible apply o_pickT); (iterate 4 rfl); (with_reducible apply Tri.op); rfl; (with_reducible apply o_assign); rfl; rfl; (with_reducible refine Tri.nil (Tri.thenN ?_)))
    ((first | with_reducible apply Tri.condD | with_reducible apply TriR.condD); (case hc => rfl); (all_goals intro g1))
    · have g1' : 0 < E.length := by omega
      ((with_reducible refine Tri.seq (Tri.region ?_)); (with_reducible apply Tri.op); rfl; (with_reducible apply o_fieldAddr); rfl; rfl; (with_reducible apply Tri.op); rfl; (with_reducible apply o_load); rfl; (repeat first | with_reducible exact Pull.head | apply Pull.tail); rfl; rfl; (with_reducible apply Tri.op); rfl)
      ((with_reducible apply o_ixRd (hr := hr0) (j := 0)); (case hx => rfl); (case hy => rfl); (case hj => rfl); (case hlt => exact g1'); (case hl => (rw [EL_length]; omega)); (case hn => rfl))
      ((with_reducible apply Tri.op); rfl; (with_reducible apply o_fieldE); rfl; rfl; (with_reducible apply Tri.op); rfl)
      ((with_reducible apply o_loadAggRd (hr := hr0) (ys := keyL (E.getD 0 ent0).key)); (case hx => rfl); (case p => (repeat first | with_reducible exact Pull.head | apply Pull.tail)); (case hv => exact EL_key E 0 g1'); (case hl => rfl); (case hn => rfl))
      ((with_reducible apply Tri.op); rfl)
      ((with_reducible apply o_storeAll (ys := keyL (E.getD 0 ent0).key)); (case hx => rfl); (case hy => rfl); (case p => (repeat first | with_reducible exact Pull.head | apply Pull.tail)); (case hl => rfl); (case hc => rfl); (case h1 => exact keyL_one _))
      ((with_reducible refine Tri.nil (Tri.thenN (Tri.ret (Tri.blockR (Tri.thenR ?_))))))
      ((first | with_reducible apply Tri.fin | with_reducible apply Tri.finN); (case hr => rfl); (case h => exact ResL.cons ((Res1.agg rfl (by (repeat first | with_reducible exact Pull.head | apply Pull.tail)) (by rw [List.drop_zero]; exact List.take_of_length_le (Nat.le_of_eq (show (keyL (E.getD 0 ent0).key).length = 2 from rfl))) (show (keyL (E.getD 0 ent0).key).length = 2 from rfl))) (ResL.nil)); (apply fin_R (Hn := [])); (case p => exact (by (repeat first | exact Pulls.nil | (apply Pulls.cons; repeat first | with_reducible exact Pull.head | apply Pull.tail)))); exact ⟨rfl, rfl⟩)
    · have g1' : E = [] := List.eq_nil_of_length_eq_zero (by omega)
      subst g1'
      ((with_reducible refine Tri.seq (Tri.region ?_)); (with_reducible apply Tri.op); rfl; (with_reducible apply o_fieldAddr); rfl; rfl; (with_reducible apply Tri.op); rfl; (with_reducible apply o_load); rfl; (repeat first | with_reducible exact Pull.head | apply Pull.tail); rfl; rfl; (with_reducible apply Tri.op); rfl; (with_reducible apply o_not); rfl; rfl; (with_reducible apply Tri.op); rfl; (with_reducible apply o_move); rfl; rfl)
      ((with_reducible apply Tri.setb 21 (false)); (case h => rfl); (case hi => rfl))
      ((iterate 4 (with_reducible apply Tri.opNo (c := false)); (iterate 6 rfl)); (with_reducible apply Tri.op); rfl; (with_reducible apply o_pickF); (iterate 4 rfl); (with_reducible apply Tri.op); rfl; (with_reducible apply o_assign); rfl; rfl; (with_reducible refine Tri.nil (Tri.thenN ?_)); (with_reducible apply Tri.condF); rfl; rfl; (with_reducible refine Tri.skip (Tri.blockN (Tri.thenN (Tri.seq (Tri.region ?_))))); (with_reducible apply Tri.op); rfl; (with_reducible apply o_build0); rfl; (with_reducible apply Tri.op); rfl)
      ((with_reducible apply o_storeAll (ys := keyL (0, 0))); (case hx => rfl); (case hy => rfl); (case p => (repeat first | with_reducible exact Pull.head | apply Pull.tail)); (case hl => rfl); (case hc => rfl); (case h1 => exact keyL_one _))
      ((with_reducible refine Tri.nil (Tri.thenN (Tri.ret ?_))))
      ((first | with_reducible apply Tri.fin | with_reducible apply Tri.finN); (case hr => rfl); (case h => exact ResL.cons ((Res1.agg rfl (by (repeat first | with_reducible exact Pull.head | apply Pull.tail)) (by rw [List.drop_zero]; exact List.take_of_length_le (Nat.le_of_eq (show (keyL (0, 0)).length = 2 from rfl))) (show (keyL (0, 0)).length = 2 from rfl))) (ResL.nil)); (apply fin_R (Hn := [])); (case p => exact (by (repeat first | exact Pulls.nil | (apply Pulls.cons; repeat first | with_reducible exact Pull.head | apply Pull.tail)))); exact ⟨rfl, rfl⟩)
  · subst hlf
    ((iterate 4 (with_reducible apply Tri.opNo (c := false)); (iterate 6 rfl)); (with_reducible apply Tri.op); rfl; (with_reducible apply o_pickF); (iterate 4 rfl); (with_reducible apply Tri.op); rfl; (with_reducible apply o_assign); rfl; rfl; (with_reducible refine Tri.nil (Tri.thenN ?_)); (with_reducible apply Tri.condF); rfl; rfl; (with_reducible refine Tri.seq (Tri.region ?_)); (with_reducible apply Tri.op); rfl; (with_reducible apply o_fieldAddr); rfl; rfl; (with_reducible apply Tri.op); rfl; (with_reducible apply o_load); rfl; (repeat first | with_reducible exact Pull.head | apply Pull.tail); rfl; rfl; (with_reducible apply Tri.op); rfl; (with_reducible apply o_not); rfl; rfl; (with_reducible apply Tri.op); rfl; (with_reducible apply o_move); rfl; rfl)
    ((with_reducible apply Tri.setb 21 (true)); (case h => rfl); (case hi => rfl))
    ((with_reducible apply Tri.opYes); rfl; rfl; rfl; (with_reducible apply o_fieldAddr); rfl; rfl; (with_reducible apply Tri.opYes); rfl; rfl; rfl; (with_reducible apply o_load); rfl; (repeat first | with_reducible exact Pull.head | apply Pull.tail); rfl; rfl; (with_reducible apply Tri.opYes); rfl; rfl; rfl)
    ((with_reducible apply o_lenRd (hr := hr1)); (case hx => rfl); (case hn => rfl))
    ((with_reducible apply Tri.opYes); rfl; rfl; rfl; (with_reducible apply o_gtr); rfl; rfl; rfl; (with_reducible apply Tri.op); rfl; (with_reducible apply o_pickT); (iterate 4 rfl); (with_reducible apply Tri.op); rfl; (with_reducible apply o_assign); rfl; rfl; (with_reducible refine Tri.nil (Tri.thenN ?_)))
    ((first | with_reducible apply Tri.condD | with_reducible apply TriR.condD); (case hc => rfl); (all_goals intro g1))
    · have g1' : 0 < K.length := by omega
      ((with_reducible refine Tri.seq (Tri.region ?_)); (with_reducible apply Tri.op); rfl; (with_reducible apply o_fieldAddr); rfl; rfl; (with_reducible apply Tri.op); rfl; (with_reducible apply o_load); rfl; (repeat first | with_reducible exact Pull.head | apply Pull.tail); rfl; rfl; (with_reducible apply Tri.op); rfl)
      ((with_reducible apply o_ixRd (hr := hr1) (j := 0)); (case hx => rfl); (case hy => rfl); (case hj => rfl); (case hlt => exact g1'); (case hl => (rw [KL_length]; omega)); (case hn => rfl))
      ((with_reducible apply Tri.op); rfl)
      ((with_reducible apply o_loadAggRd (hr := hr1) (ys := keyL (K.getD 0 (0, 0)))); (case hx => rfl); (case p => (repeat first | with_reducible exact Pull.head | apply Pull.tail)); (case hv => exact KL_two K 0 g1'); (case hl => rfl); (case hn => rfl))
      ((with_reducible apply Tri.op); rfl)
      ((with_reducible apply o_storeAll (ys := keyL (K.getD 0 (0, 0)))); (case hx => rfl); (case hy => rfl); (case p => (repeat first | with_reducible exact Pull.head | apply Pull.tail)); (case hl => rfl); (case hc => rfl); (case h1 => exact keyL_one _))
      ((with_reducible refine Tri.nil (Tri.thenN (Tri.ret (Tri.blockR (Tri.thenR ?_))))))
      ((first | with_reducible apply Tri.fin | with_reducible apply Tri.finN); (case hr => rfl); (case h => exact ResL.cons ((Res1.agg rfl (by (repeat first | with_reducible exact Pull.head | apply Pull.tail)) (by rw [List.drop_zero]; exact List.take_of_length_le (Nat.le_of_eq (show (keyL (K.getD 0 (0, 0))).length = 2 from rfl))) (show (keyL (K.getD 0 (0, 0))).length = 2 from rfl))) (ResL.nil)); (apply fin_R (Hn := [])); (case p => exact (by (repeat first | exact Pulls.nil | (apply Pulls.cons; repeat first | with_reducible exact Pull.head | apply Pull.tail)))); exact ⟨rfl, rfl⟩)
    · have g1' : K = [] := List.eq_nil_of_length_eq_zero (by omega)
      subst g1'
      ((with_reducible refine Tri.skip (Tri.blockN (Tri.thenN (Tri.seq (Tri.region ?_))))); (with_reducible apply Tri.op); rfl; (with_reducible apply o_build0); rfl; (with_reducible apply Tri.op); rfl)
      ((with_reducible apply o_storeAll (ys := keyL (0, 0))); (case hx => rfl); (case hy => rfl); (case p => (repeat first | with_reducible exact Pull.head | apply Pull.tail)); (case hl => rfl); (case hc => rfl); (case h1 => exact keyL_one _))
      ((with_reducible refine Tri.nil (Tri.thenN (Tri.ret ?_))))
      ((first | with_reducible apply Tri.fin | with_reducible apply Tri.finN); (case hr => rfl); (case h => exact ResL.cons ((Res1.agg rfl (by (repeat first | with_reducible exact Pull.head | apply Pull.tail)) (by rw [List.drop_zero]; exact List.take_of_length_le (Nat.le_of_eq (show (keyL (0, 0)).length = 2 from rfl))) (show (keyL (0, 0)).length = 2 from rfl))) (ResL.nil)); (apply fin_R (Hn := [])); (case p => exact (by (repeat first | exact Pulls.nil | (apply Pulls.cons; repeat first | with_reducible exact Pull.head | apply Pull.tail)))); exact ⟨rfl, rfl⟩)
end Go.Proofs.Ytckdlfbbkemklaa
