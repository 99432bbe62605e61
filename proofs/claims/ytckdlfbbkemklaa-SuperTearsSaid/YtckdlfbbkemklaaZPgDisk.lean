import Derived.Test.YtckdlfbbkemklaaZPgRaw2
import Derived.Test.YtckdlfbbkemklaaZPgWalk3
/- page: pages to a disk and back. -/
namespace Go.Proofs.Ytckdlfbbkemklaa
open Go Go.RowKit Go.Gv
set_option linter.unusedVariables false
set_option linter.unusedSimpArgs false

/-- the bytes of a page of a disk -/
def pgAt (V : List UInt8) (a : Nat) : List UInt8 := (V.drop (a * 256)).take 256
/-- a page that is read -/
def rdPg (S : DS) (addr : Int) (kind : UInt8) : PG × Nat :=
  if rdE S (addr * 4) 4 ≠ 0 then (zeroP, rdE S (addr * 4) 4)
  else if (getP (pgAt S.V addr.toNat)).2 = 0 ∧ (getP (pgAt S.V addr.toNat)).1.a = addr ∧ (getP (pgAt S.V addr.toNat)).1.k = kind then getP (pgAt S.V addr.toNat) else (zeroP, 3)
theorem sixteen (b : Bool) : (b = true ∨ b = false) := by cases b <;> simp
set_option maxHeartbeats 16000000 in
theorem page_Read (p : Nat) (S : DS) (addr : Int) (kind : UInt8) (hS : S.ok) (hl : S.W.length ≤ 1000000) (ha : -1000000 ≤ addr ∧ addr ≤ 1000000) :
    Gv.Spec Try.prog 94 #[tabV, .pointer (some ⟨p, 0, none⟩), .int .i64 addr, .int .u8 (kind.toNat : Int)] [DSK p S]
    (fun r H' => ∃ A c, r = .tuple #[pgV (rdPg S addr kind).1 (.slice A (rdPg S addr kind).1.b.length c), .int .i64 ((rdPg S addr kind).2 : Int)] ∧ H' = [DSK p S, own 5 1 (.slice A (rdPg S addr kind).1.b.length c) (rdPg S addr kind).1.b.length (B8 (rdPg S addr kind).1.b)]) := by
  refine Gv.Spec.of (fun w h0 hw => ?_)
  refine Calls.enter Try.func94 rfl rfl rfl hw ?_
  simp only [argSlots]
  (try dsimp only [List.cons_append, List.nil_append])
  ((with_reducible refine Tri.seq (Tri.region ?_)); (with_reducible apply Tri.op); rfl)
  (first | ((with_reducible apply o_boxA); (case hx => rfl); (case hn => rfl); intro b4) | ((with_reducible apply o_box1); (case hx => rfl); (case h1 => rfl); (case hn => rfl); intro b4))
  ((with_reducible apply Tri.op); rfl)
  ((with_reducible apply o_alloc); (case hn => rfl); intro b8)
  ((with_reducible apply Tri.op); rfl; (with_reducible apply o_assign); rfl; rfl; (with_reducible refine Tri.nil (Tri.thenN (Tri.seq (Tri.region ?_)))); (with_reducible apply Tri.op); rfl; (with_reducible apply o_move); rfl; rfl; (with_reducible apply Tri.op); rfl; (with_reducible apply o_move); rfl; rfl; (with_reducible apply Tri.op); rfl)
  ((with_reducible apply o_callS (hs := page_ReadRaw p S addr 256 hS hl (by omega) ha)); (case hargs => (repeat first | exact evs.nil | (apply evs.cons; case a => rfl))); (case p => (repeat first | exact Pulls.nil | (apply Pulls.cons; repeat first | with_reducible exact Pull.head | apply Pull.tail))); (case hn => rfl))
  rintro r H' (⟨he, rfl, rfl⟩ | ⟨he, A0, h1, rfl, hr, hl2, rfl⟩)
  · have e4 : (256 + 63) / 64 = 4 := rfl
    rw [e4] at he ⊢
    have hrd : rdPg S addr kind = (zeroP, rdE S (addr * 4) 4) := by rw [rdPg, if_pos he]
    (try dsimp only [List.cons_append, List.nil_append])
    ((with_reducible apply Tri.op); rfl; (with_reducible apply o_move); rfl; rfl; (with_reducible apply Tri.op); rfl; (with_reducible apply o_extract); rfl; rfl; rfl; (with_reducible apply Tri.op); rfl; (with_reducible apply o_extract); rfl; rfl; rfl; (with_reducible apply Tri.op); rfl; (with_reducible apply o_assign); rfl; rfl; (with_reducible apply Tri.op); rfl; (with_reducible apply o_assign); rfl; rfl; (with_reducible refine Tri.nil (Tri.thenN (Tri.seq (Tri.seq (Tri.region ?_))))); (with_reducible apply Tri.op); rfl; (with_reducible apply o_move); rfl; rfl; (with_reducible apply Tri.op); rfl; (with_reducible apply o_neq); rfl; rfl; rfl; (with_reducible refine Tri.nil (Tri.thenN ?_)))
    ((with_reducible apply Tri.setb 20 (true)); (case h => rfl); (case hi => (rw [decide_eq_true]; omega)))
    ((with_reducible apply Tri.condT); rfl; rfl; (with_reducible refine Tri.seq (Tri.region ?_)); (with_reducible apply Tri.op); rfl; (with_reducible apply o_build0); rfl; (with_reducible apply Tri.op); rfl; (with_reducible apply o_move); rfl; rfl; (with_reducible apply Tri.op); rfl)
    ((with_reducible apply o_storeAll (ys := pgL zeroP (.slice none 0 0))); (case hx => rfl); (case hy => rfl); (case p => (repeat first | with_reducible exact Pull.head | apply Pull.tail)); (case hl => rfl); (case hc => rfl); (case h1 => exact pgL_one zeroP none 0 0))
    ((with_reducible apply Tri.op); rfl; (with_reducible apply o_assign); rfl; rfl; (with_reducible refine Tri.nil (Tri.thenN (Tri.ret (Tri.thenR ?_)))))
    (with_reducible apply Tri.ownNil 5 1)
    ((first | with_reducible apply Tri.fin | with_reducible apply Tri.finN); (case hr => rfl); (case h => exact ResL.cons ((Res1.agg rfl (by (repeat first | with_reducible exact Pull.head | apply Pull.tail)) (by rw [List.drop_zero]; exact List.take_of_length_le (Nat.le_of_eq (pgL_len zeroP (.slice none 0 0)))) (pgL_len zeroP (.slice none 0 0)))) (ResL.cons (Res1.tmp rfl) (ResL.nil))); (apply fin_R (Hn := [DSK p S, own 5 1 (.slice none 0 0) 0 []])); (case p => exact (by (repeat first | exact Pulls.nil | (apply Pulls.cons; repeat first | with_reducible exact Pull.head | apply Pull.tail)))); (rw [hrd]; exact ⟨none, 0, rfl, rfl⟩))
  · have e4 : (256 + 63) / 64 = 4 := rfl
    rw [e4] at he
    (try dsimp only [List.cons_append, List.nil_append])
    obtain ⟨l, hlq⟩ : ∃ l, l = pgAt S.V addr.toNat := ⟨_, rfl⟩
    rw [show (S.V.drop (addr.toNat * 256)).take 256 = l from hlq.symm] at hr hl2
    ((with_reducible apply Tri.op); rfl; (with_reducible apply o_move); rfl; rfl; (with_reducible apply Tri.op); rfl; (with_reducible apply o_extract); rfl; rfl; rfl; (with_reducible apply Tri.op); rfl; (with_reducible apply o_extract); rfl; rfl; rfl; (with_reducible apply Tri.op); rfl; (with_reducible apply o_assign); rfl; rfl; (with_reducible apply Tri.op); rfl; (with_reducible apply o_assign); rfl; rfl; (with_reducible refine Tri.nil (Tri.thenN (Tri.seq (Tri.seq (Tri.region ?_))))); (with_reducible apply Tri.op); rfl; (with_reducible apply o_move); rfl; rfl; (with_reducible apply Tri.op); rfl; (with_reducible apply o_neq); rfl; rfl; rfl; (with_reducible refine Tri.nil (Tri.thenN ?_)))
    ((with_reducible apply Tri.setb 20 (false)); (case h => rfl); (case hi => rfl))
    ((with_reducible apply Tri.condF); rfl; rfl; (with_reducible refine Tri.skip (Tri.thenN (Tri.seq (Tri.region ?_)))); (with_reducible apply Tri.op); rfl)
    ((with_reducible apply o_loadAll); (case hx => rfl); (case p => (repeat first | with_reducible exact Pull.head | apply Pull.tail)); (case hl => exact tabL_length); (case hn => rfl))
    ((with_reducible apply Tri.op); rfl; (with_reducible apply o_move); rfl; rfl; (with_reducible apply Tri.op); rfl)
    ((with_reducible apply o_callR (hs := page_Get (.slice A0 256 256) l)); (case hargs => (repeat first | exact evs.nil | (apply evs.cons; case a => rfl))); (case hpre => exact rdw_ex (by (repeat first | with_reducible exact Pull.head | apply Pull.tail)) hr); (case hn => rfl))
    rintro r2 H2 ⟨A, c, rfl, rfl⟩
    (try dsimp only [List.cons_append, List.nil_append])
    have hrd : rdPg S addr kind = if (getP l).2 = 0 ∧ (getP l).1.a = addr ∧ (getP l).1.k = kind then getP l else (zeroP, 3) := by rw [rdPg, if_neg (by rw [he]; simp), hlq]
    obtain ⟨g, hg⟩ : ∃ g, g = getP l := ⟨_, rfl⟩
    rw [← hg] at hrd ⊢
    obtain ⟨q, e⟩ := g
    dsimp only at hrd ⊢
    ((with_reducible apply Tri.op); rfl; (with_reducible apply o_move); rfl; rfl; (with_reducible apply Tri.op); rfl; (with_reducible apply o_extract); rfl; rfl; rfl; (with_reducible apply Tri.op); rfl; (with_reducible apply o_extract); rfl; rfl; rfl; (with_reducible apply Tri.op); rfl)
    ((with_reducible apply o_alloc); (case hn => rfl); intro b12)
    ((with_reducible apply Tri.op); rfl)
    ((with_reducible apply o_storeAll (ys := pgL q (.slice A q.b.length c))); (case hx => rfl); (case hy => rfl); (case p => (repeat first | with_reducible exact Pull.head | apply Pull.tail)); (case hl => rfl); (case hc => rfl); (case h1 => exact pgL_one q A _ c))
    ((with_reducible apply Tri.op); rfl; (with_reducible apply o_assign); rfl; rfl; (with_reducible refine Tri.nil (Tri.thenN (Tri.seq (Tri.seq (Tri.region ?_))))); (with_reducible apply Tri.op); rfl; (with_reducible apply o_move); rfl; rfl; (with_reducible apply Tri.op); rfl; (with_reducible apply o_neq); rfl; rfl; rfl; (with_reducible apply Tri.op); rfl; (with_reducible apply o_move); rfl; rfl)
    by_cases h2 : e = 0
    · subst h2
      ((with_reducible apply Tri.setb 31 (false)); (case h => rfl); (case hi => rfl))
      ((with_reducible apply Tri.opYes); rfl; rfl; rfl; (with_reducible apply o_fieldAddr); rfl; rfl; (with_reducible apply Tri.opYes); rfl; rfl; rfl; (with_reducible apply o_load); rfl; (repeat first | with_reducible exact Pull.head | apply Pull.tail); rfl; rfl; (with_reducible apply Tri.opYes); rfl; rfl; rfl; (with_reducible apply o_move); rfl; rfl; (with_reducible apply Tri.opYes); rfl; rfl; rfl; (with_reducible apply o_neq); rfl; rfl; rfl; (with_reducible apply Tri.op); rfl; (with_reducible apply o_pickF); (iterate 4 rfl); (with_reducible apply Tri.op); rfl; (with_reducible apply o_move); rfl; rfl)
      by_cases h3 : q.a = addr
      · ((with_reducible apply Tri.setb 37 (false)); (case h => rfl); (case hi => simp [h3]))
        ((with_reducible apply Tri.opYes); rfl; rfl; rfl; (with_reducible apply o_fieldAddr); rfl; rfl; (with_reducible apply Tri.opYes); rfl; rfl; rfl; (with_reducible apply o_load); rfl; (repeat first | with_reducible exact Pull.head | apply Pull.tail); rfl; rfl; (with_reducible apply Tri.opYes); rfl; rfl; rfl; (with_reducible apply o_move); rfl; rfl; (with_reducible apply Tri.opYes); rfl; rfl; rfl; (with_reducible apply o_neq); rfl; rfl; rfl; (with_reducible apply Tri.op); rfl; (with_reducible apply o_pickF); (iterate 4 rfl); (with_reducible refine Tri.nil (Tri.thenN ?_)))
        by_cases h4 : q.k = kind
        · rw [if_pos ⟨rfl, h3, h4⟩] at hrd
          ((with_reducible apply Tri.setb 42 (false)); (case h => rfl); (case hi => simp [h4]))
          ((with_reducible apply Tri.condF); rfl; rfl; (with_reducible refine Tri.skip (Tri.thenN (Tri.seq (Tri.region ?_)))); (with_reducible apply Tri.op); rfl)
          ((with_reducible apply o_loadAll (cs := pgL q (.slice A q.b.length c))); (case hx => rfl); (case p => exact (by (repeat first | with_reducible exact Pull.head | apply Pull.tail))); (case hl => rfl); (case hn => rfl))
          ((with_reducible apply Tri.op); rfl)
          ((with_reducible apply o_storeAll (ys := pgL q (.slice A q.b.length c))); (case hx => rfl); (case hy => rfl); (case p => (repeat first | with_reducible exact Pull.head | apply Pull.tail)); (case hl => rfl); (case hc => rfl); (case h1 => exact pgL_one q A _ c))
          ((with_reducible apply Tri.op); rfl; (with_reducible apply o_assign); rfl; rfl; (with_reducible refine Tri.nil (Tri.thenN (Tri.ret ?_))))
          ((first | with_reducible apply Tri.fin | with_reducible apply Tri.finN); (case hr => rfl); (case h => exact ResL.cons ((Res1.agg rfl (by (repeat first | with_reducible exact Pull.head | apply Pull.tail)) (by rw [List.drop_zero]; exact List.take_of_length_le (Nat.le_of_eq (pgL_len q (.slice A q.b.length c)))) (pgL_len q (.slice A q.b.length c)))) (ResL.cons (Res1.tmp rfl) (ResL.nil))); (apply fin_R (Hn := [DSK p S, own 5 1 (.slice A q.b.length c) q.b.length (B8 q.b)])); (case p => exact (by (repeat first | exact Pulls.nil | (apply Pulls.cons; repeat first | with_reducible exact Pull.head | apply Pull.tail)))); (rw [hrd]; exact ⟨A, c, rfl, rfl⟩))
        · rw [if_neg (fun h => h4 h.2.2)] at hrd
          have h4' : ¬ ((q.k.toNat : Nat) : Int) = kind.toNat := fun h => h4 (UInt8.toNat_inj.1 (by omega))
          ((with_reducible apply Tri.setb 42 (true)); (case h => rfl); (case hi => (rw [decide_eq_true]; exact h4')))
          ((with_reducible apply Tri.condT); rfl; rfl; (with_reducible refine Tri.seq (Tri.region ?_)); (with_reducible apply Tri.op); rfl; (with_reducible apply o_build0); rfl; (with_reducible apply Tri.op); rfl)
          ((with_reducible apply o_storeAll (ys := pgL zeroP (.slice none 0 0))); (case hx => rfl); (case hy => rfl); (case p => (repeat first | with_reducible exact Pull.head | apply Pull.tail)); (case hl => rfl); (case hc => rfl); (case h1 => exact pgL_one zeroP none 0 0))
          ((with_reducible apply Tri.op); rfl; (with_reducible apply o_assign); rfl; rfl; (with_reducible refine Tri.nil (Tri.thenN (Tri.ret (Tri.thenR ?_)))))
          (with_reducible apply Tri.ownNil 5 1)
          ((first | with_reducible apply Tri.fin | with_reducible apply Tri.finN); (case hr => rfl); (case h => exact ResL.cons ((Res1.agg rfl (by (repeat first | with_reducible exact Pull.head | apply Pull.tail)) (by rw [List.drop_zero]; exact List.take_of_length_le (Nat.le_of_eq (pgL_len zeroP (.slice none 0 0)))) (pgL_len zeroP (.slice none 0 0)))) (ResL.cons (Res1.tmp rfl) (ResL.nil))); (apply fin_R (Hn := [DSK p S, own 5 1 (.slice none 0 0) 0 []])); (case p => exact (by (repeat first | exact Pulls.nil | (apply Pulls.cons; repeat first | with_reducible exact Pull.head | apply Pull.tail)))); (rw [hrd]; exact ⟨none, 0, rfl, rfl⟩))
      · rw [if_neg (fun h => h3 h.2.1)] at hrd
        ((with_reducible apply Tri.setb 37 (true)); (case h => rfl); (case hi => (rw [decide_eq_true]; exact h3)))
        ((iterate 4 (with_reducible apply Tri.opNo (c := true)); (iterate 6 rfl)); (with_reducible apply Tri.op); rfl; (with_reducible apply o_pickT); (iterate 4 rfl); (with_reducible refine Tri.nil (Tri.thenN ?_)); (with_reducible apply Tri.condT); rfl; rfl; (with_reducible refine Tri.seq (Tri.region ?_)); (with_reducible apply Tri.op); rfl; (with_reducible apply o_build0); rfl; (with_reducible apply Tri.op); rfl)
        ((with_reducible apply o_storeAll (ys := pgL zeroP (.slice none 0 0))); (case hx => rfl); (case hy => rfl); (case p => (repeat first | with_reducible exact Pull.head | apply Pull.tail)); (case hl => rfl); (case hc => rfl); (case h1 => exact pgL_one zeroP none 0 0))
        ((with_reducible apply Tri.op); rfl; (with_reducible apply o_assign); rfl; rfl; (with_reducible refine Tri.nil (Tri.thenN (Tri.ret (Tri.thenR ?_)))))
        (with_reducible apply Tri.ownNil 5 1)
        ((first | with_reducible apply Tri.fin | with_reducible apply Tri.finN); (case hr => rfl); (case h => exact ResL.cons ((Res1.agg rfl (by (repeat first | with_reducible exact Pull.head | apply Pull.tail)) (by rw [List.drop_zero]; exact List.take_of_length_le (Nat.le_of_eq (pgL_len zeroP (.slice none 0 0)))) (pgL_len zeroP (.slice none 0 0)))) (ResL.cons (Res1.tmp rfl) (ResL.nil))); (apply fin_R (Hn := [DSK p S, own 5 1 (.slice none 0 0) 0 []])); (case p => exact (by (repeat first | exact Pulls.nil | (apply Pulls.cons; repeat first | with_reducible exact Pull.head | apply Pull.tail)))); (rw [hrd]; exact ⟨none, 0, rfl, rfl⟩))
    · rw [if_neg (fun h => h2 h.1)] at hrd
      ((with_reducible apply Tri.setb 31 (true)); (case h => rfl); (case hi => (rw [decide_eq_true]; omega)))
      ((iterate 4 (with_reducible apply Tri.opNo (c := true)); (iterate 6 rfl)); (with_reducible apply Tri.op); rfl; (with_reducible apply o_pickT); (iterate 4 rfl); (with_reducible apply Tri.op); rfl; (with_reducible apply o_move); rfl; rfl; (iterate 4 (with_reducible apply Tri.opNo (c := true)); (iterate 6 rfl)); (with_reducible apply Tri.op); rfl; (with_reducible apply o_pickT); (iterate 4 rfl); (with_reducible refine Tri.nil (Tri.thenN ?_)); (with_reducible apply Tri.condT); rfl; rfl; (with_reducible refine Tri.seq (Tri.region ?_)); (with_reducible apply Tri.op); rfl; (with_reducible apply o_build0); rfl; (with_reducible apply Tri.op); rfl)
      ((with_reducible apply o_storeAll (ys := pgL zeroP (.slice none 0 0))); (case hx => rfl); (case hy => rfl); (case p => (repeat first | with_reducible exact Pull.head | apply Pull.tail)); (case hl => rfl); (case hc => rfl); (case h1 => exact pgL_one zeroP none 0 0))
      ((with_reducible apply Tri.op); rfl; (with_reducible apply o_assign); rfl; rfl; (with_reducible refine Tri.nil (Tri.thenN (Tri.ret (Tri.thenR ?_)))))
      (with_reducible apply Tri.ownNil 5 1)
      ((first | with_reducible apply Tri.fin | with_reducible apply Tri.finN); (case hr => rfl); (case h => exact ResL.cons ((Res1.agg rfl (by (repeat first | with_reducible exact Pull.head | apply Pull.tail)) (by rw [List.drop_zero]; exact List.take_of_length_le (Nat.le_of_eq (pgL_len zeroP (.slice none 0 0)))) (pgL_len zeroP (.slice none 0 0)))) (ResL.cons (Res1.tmp rfl) (ResL.nil))); (apply fin_R (Hn := [DSK p S, own 5 1 (.slice none 0 0) 0 []])); (case p => exact (by (repeat first | exact Pulls.nil | (apply Pulls.cons; repeat first | with_reducible exact Pull.head | apply Pull.tail)))); (rw [hrd]; exact ⟨none, 0, rfl, rfl⟩))
/-- a page that is written: the disk behind it, and the error -/
def wrPg (S : DS) (q : PG) : DS × Nat := if okP q = true then S.wrs (q.a * 4) (secs (putP q) 4) else (S, 1)
theorem padP {q : PG} (h : okP q = true) : padB (putP q) = putP q := by
  have hl := putP_length q (okP_spec h).2.2.2
  unfold padB padN
  rw [hl]; simp
set_option maxHeartbeats 4000000 in
theorem page_Write (p : Nat) (S : DS) (q : PG) (v : Value) (h1 : PH) (hr : Rd h1 v q.b.length (B8 q.b)) (hg : q.g < 18446744073709551616) (hS : S.ok) (hl : S.W.length ≤ 800000) :
    Gv.Spec Try.prog 58 #[tabV, .pointer (some ⟨p, 0, none⟩), pgV q v] [DSK p S, Ex h1]
    (fun r H' => r = .int .i64 ((wrPg S q).2 : Int) ∧ H' = [DSK p (wrPg S q).1, Ex h1]) := by
  refine Gv.Spec.of (fun w h0 hw => ?_)
  refine Calls.enter Try.func58 rfl rfl rfl hw ?_
  simp only [argSlots]
  (try dsimp only [List.cons_append, List.nil_append])
  ((with_reducible refine Tri.seq (Tri.region ?_)); (with_reducible apply Tri.op); rfl)
  (first | ((with_reducible apply o_boxA); (case hx => rfl); (case hn => rfl); intro b3) | ((with_reducible apply o_box1); (case hx => rfl); (case h1 => rfl); (case hn => rfl); intro b3))
  ((with_reducible apply Tri.op); rfl)
  (first | ((with_reducible apply o_boxA); (case hx => rfl); (case hn => rfl); intro b5) | ((with_reducible apply o_box1); (case hx => rfl); (case h1 => rfl); (case hn => rfl); intro b5))
  ((with_reducible apply Tri.op); rfl; (with_reducible apply o_assign); rfl; rfl; (with_reducible refine Tri.nil (Tri.thenN (Tri.seq (Tri.region ?_)))); (with_reducible apply Tri.op); rfl)
  ((with_reducible apply o_loadAll); (case hx => rfl); (case p => (repeat first | with_reducible exact Pull.head | apply Pull.tail)); (case hl => exact tabL_length); (case hn => rfl))
  ((with_reducible apply Tri.op); rfl)
  ((with_reducible apply o_loadAll (cs := pgL q v)); (case hx => rfl); (case p => exact (by (repeat first | with_reducible exact Pull.head | apply Pull.tail))); (case hl => rfl); (case hn => rfl))
  ((with_reducible apply Tri.op); rfl)
  by_cases hok : okP q = true
  · have hs := okP_spec hok
    have hpl := putP_length q hs.2.2.2
    ((with_reducible apply o_callR (hs := page_Put q v hok hg)); (case hargs => (repeat first | exact evs.nil | (apply evs.cons; case a => rfl))); (case hpre => exact rdw_ex (by (repeat first | with_reducible exact Pull.head | apply Pull.tail)) hr); (case hn => rfl))
    rintro r H' ⟨u, rfl, rfl⟩
    (try dsimp only [List.cons_append, List.nil_append])
    refine Tri.shut (e := 5) (size := 1) (v := u) (by (repeat first | with_reducible exact Pull.head | apply Pull.tail)) (fun h2 ho => ?_)
    ((with_reducible apply Tri.op); rfl; (with_reducible apply o_move); rfl; rfl; (with_reducible apply Tri.op); rfl; (with_reducible apply o_extract); rfl; rfl; rfl; (with_reducible apply Tri.op); rfl; (with_reducible apply o_extract); rfl; rfl; rfl; (with_reducible apply Tri.op); rfl; (with_reducible apply o_assign); rfl; rfl; (with_reducible apply Tri.op); rfl; (with_reducible apply o_assign); rfl; rfl; (with_reducible refine Tri.nil (Tri.thenN (Tri.seq (Tri.seq (Tri.region ?_))))); (with_reducible apply Tri.op); rfl; (with_reducible apply o_move); rfl; rfl; (with_reducible apply Tri.op); rfl; (with_reducible apply o_neq); rfl; rfl; rfl; (with_reducible refine Tri.nil (Tri.thenN ?_)))
    ((with_reducible apply Tri.setb 16 (false)); (case h => rfl); (case hi => rfl))
    ((with_reducible apply Tri.condF); rfl; rfl; (with_reducible refine Tri.skip (Tri.thenN (Tri.seq (Tri.region ?_)))); (with_reducible apply Tri.op); rfl; (with_reducible apply o_move); rfl; rfl; (with_reducible apply Tri.op); rfl; (with_reducible apply o_fieldAddr); rfl; rfl; (with_reducible apply Tri.op); rfl; (with_reducible apply o_load); rfl; (repeat first | with_reducible exact Pull.head | apply Pull.tail); rfl; rfl; (with_reducible apply Tri.op); rfl; (with_reducible apply o_move); rfl; rfl; (with_reducible apply Tri.op); rfl)
    ((with_reducible apply o_callS (hs := page_WriteRaw p S q.a u (putP q) h2 (own_Rd ho) hS (by omega) (by omega) (by omega))); (case hargs => (repeat first | exact evs.nil | (apply evs.cons; case a => rfl))); (case p => (repeat first | exact Pulls.nil | (apply Pulls.cons; repeat first | with_reducible exact Pull.head | apply Pull.tail))); (case hn => rfl))
    rintro r2 H2 ⟨rfl, rfl⟩
    rw [padP hok, hpl]
    (try dsimp only [List.cons_append, List.nil_append])
    ((with_reducible apply Tri.op); rfl; (with_reducible apply o_assign); rfl; rfl; (with_reducible refine Tri.nil (Tri.thenN (Tri.ret ?_))))
    have hwp : wrPg S q = S.wrs (q.a * 4) (secs (putP q) (256 / 64)) := by rw [wrPg, if_pos hok]
    rw [← hwp]
    ((first | with_reducible apply Tri.fin | with_reducible apply Tri.finN); (case hr => rfl); (case h => exact ResL.cons (Res1.tmp rfl) (ResL.nil)); (apply fin_R (Hn := [DSK p (wrPg S q).1, Ex h1])); (case p => exact (by (repeat first | exact Pulls.nil | (apply Pulls.cons; repeat first | with_reducible exact Pull.head | apply Pull.tail)))); exact ⟨rfl, rfl⟩)
  · have hno : okP q = false := by simpa using hok
    ((with_reducible apply o_callV (hs := page_Put_no q v hno)); (case hargs => (repeat first | exact evs.nil | (apply evs.cons; case a => rfl))); (case hpre => exact rdw_ex (by (repeat first | with_reducible exact Pull.head | apply Pull.tail)) hr); (case hn => rfl))
    ((with_reducible apply Tri.op); rfl; (with_reducible apply o_move); rfl; rfl; (with_reducible apply Tri.op); rfl; (with_reducible apply o_extract); rfl; rfl; rfl; (with_reducible apply Tri.op); rfl; (with_reducible apply o_extract); rfl; rfl; rfl; (with_reducible apply Tri.op); rfl; (with_reducible apply o_assign); rfl; rfl; (with_reducible apply Tri.op); rfl; (with_reducible apply o_assign); rfl; rfl; (with_reducible refine Tri.nil (Tri.thenN (Tri.seq (Tri.seq (Tri.region ?_))))); (with_reducible apply Tri.op); rfl; (with_reducible apply o_move); rfl; rfl; (with_reducible apply Tri.op); rfl; (with_reducible apply o_neq); rfl; rfl; rfl; (with_reducible refine Tri.nil (Tri.thenN ?_)))
    ((with_reducible apply Tri.setb 16 (true)); (case h => rfl); (case hi => rfl))
    ((with_reducible apply Tri.condT); rfl; rfl; (with_reducible refine Tri.seq (Tri.region ?_)); (with_reducible apply Tri.op); rfl; (with_reducible apply o_move); rfl; rfl; (with_reducible apply Tri.op); rfl; (with_reducible apply o_assign); rfl; rfl; (with_reducible refine Tri.nil (Tri.thenN (Tri.ret (Tri.thenR ?_)))))
    have hwp : wrPg S q = (S, 1) := by rw [wrPg, if_neg hok]
    rw [hwp]
    ((first | with_reducible apply Tri.fin | with_reducible apply Tri.finN); (case hr => rfl); (case h => exact ResL.cons (Res1.tmp rfl) (ResL.nil)); (apply fin_R (Hn := [DSK p S, Ex h1])); (case p => exact (by (repeat first | exact Pulls.nil | (apply Pulls.cons; repeat first | with_reducible exact Pull.head | apply Pull.tail)))); exact ⟨rfl, rfl⟩)
end Go.Proofs.Ytckdlfbbkemklaa
