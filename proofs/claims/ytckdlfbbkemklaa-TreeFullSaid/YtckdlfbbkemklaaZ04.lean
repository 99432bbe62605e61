/- Texts of this claim, put together: PgDisk, NdPlain, NdPlain2, NdWalk, NdWalk2, NdWalk3. -/
import Derived.Test.YtckdlfbbkemklaaZ03
import Derived.Test.YtckdlfbbkemklaaZ02
section
/- page: pages to a disk and back. -/
namespace Go.Proofs.Ytckdlfbbkemklaa
open Go Go.RowKit Go.Gv
set_option linter.unusedVariables false
set_option linter.unusedSimpArgs false

/-- the bytes of a page of a disk -/
def pgAt (V : List UInt8) (a : Nat) : List UInt8 := (V.drop (a * 256)).take 256
/-- a page that is read -/
def rdPg (S : DS) (addr : Int) (kind : UInt8) : PG × Nat :=
  if rdE S (addr * 4) 4 ≠ 0 then (zeroP, rdE S (addr * 4) 4)
  else if (getP (pgAt S.V addr.toNat)).2 = 0 ∧ (getP (pgAt S.V addr.toNat)).1.a = addr ∧ (getP (pgAt S.V addr.toNat)).1.k = kind then getP (pgAt S.V addr.toNat) else (zeroP, 3)
theorem sixteen (b : Bool) : (b = true ∨ b = false) := by cases b <;> simp
set_option maxHeartbeats 16000000 in
theorem page_Read (p : Nat) (S : DS) (addr : Int) (kind : UInt8) (hS : S.ok) (hl : S.W.length ≤ 1000000) (ha : -1000000 ≤ addr ∧ addr ≤ 1000000) :
    Gv.Spec Try.prog 94 #[tabV, .pointer (some ⟨p, 0, none⟩), .int .i64 addr, .int .u8 (kind.toNat : Int)] [DSK p S]
    (fun r H' => ∃ A c, r = .tuple #[pgV (rdPg S addr kind).1 (.slice A (rdPg S addr kind).1.b.length c), .int .i64 ((rdPg S addr kind).2 : Int)] ∧ H' = [DSK p S, own 5 1 (.slice A (rdPg S addr kind).1.b.length c) (rdPg S addr kind).1.b.length (B8 (rdPg S addr kind).1.b)]) := by
  refine Gv.Spec.of (fun w h0 hw => ?_)
  refine Calls.enter Try.func94 rfl rfl rfl hw ?_
  simp only [argSlots]
  (try dsimp only [List.cons_append, List.nil_append])
  (refine Tri.seq (Tri.region ?_); apply Tri.op; rfl)
  (first | (apply o_boxA; (case hx => rfl); (case hn => rfl); intro b4) | (apply o_box1; (case hx => rfl); (case h1 => rfl); (case hn => rfl); intro b4))
  (apply Tri.op; rfl)
  (apply o_alloc; (case hn => rfl); intro b8)
  (apply Tri.op; rfl; apply o_assign; rfl; rfl; refine Tri.nil (Tri.thenN (Tri.seq (Tri.region ?_))); apply Tri.op; rfl; apply o_move; rfl; rfl; apply Tri.op; rfl; apply o_move; rfl; rfl; apply Tri.op; rfl)
  (apply o_callS (hs := page_ReadRaw p S addr 256 hS hl (by omega) ha); (case hargs => (repeat first | exact evs.nil | (apply evs.cons; case a => rfl))); (case p => (repeat first | with_reducible constructor | constructor)); (case hn => rfl))
  rintro r H' (⟨he, rfl, rfl⟩ | ⟨he, A0, h1, rfl, hr, hl2, rfl⟩)
  · have e4 : (256 + 63) / 64 = 4 := rfl
    rw [e4] at he ⊢
    have hrd : rdPg S addr kind = (zeroP, rdE S (addr * 4) 4) := by rw [rdPg, if_pos he]
    (try dsimp only [List.cons_append, List.nil_append])
    (apply Tri.op; rfl; apply o_move; rfl; rfl; apply Tri.op; rfl; apply o_extract; rfl; rfl; rfl; apply Tri.op; rfl; apply o_extract; rfl; rfl; rfl; apply Tri.op; rfl; apply o_assign; rfl; rfl; apply Tri.op; rfl; apply o_assign; rfl; rfl; refine Tri.nil (Tri.thenN (Tri.seq (Tri.seq (Tri.region ?_)))); apply Tri.op; rfl; apply o_move; rfl; rfl; apply Tri.op; rfl; apply o_neq; rfl; rfl; rfl; refine Tri.nil (Tri.thenN ?_))
    ((with_reducible apply Tri.setb 20 (true)); (case h => rfl); (case hi => (rw [decide_eq_true]; omega)))
    (apply Tri.condT; rfl; rfl; refine Tri.seq (Tri.region ?_); apply Tri.op; rfl; apply o_build0; rfl; apply Tri.op; rfl; apply o_move; rfl; rfl; apply Tri.op; rfl)
    (apply o_storeAll (ys := pgL zeroP (.slice none 0 0)); (case hx => rfl); (case hy => rfl); (case p => (with_reducible repeat constructor)); (case hl => rfl); (case hc => rfl); (case h1 => exact pgL_one zeroP none 0 0))
    (apply Tri.op; rfl; apply o_assign; rfl; rfl; refine Tri.nil (Tri.thenN (Tri.ret (Tri.thenR ?_))))
    (with_reducible apply Tri.ownNil 5 1)
    (apply Tri.fin; (case hr => rfl); (case h => exact ResL.cons ((Res1.agg rfl (by (with_reducible repeat constructor)) (by rw [List.drop_zero]; exact List.take_of_length_le (Nat.le_of_eq (pgL_len zeroP (.slice none 0 0)))) (pgL_len zeroP (.slice none 0 0)))) (ResL.cons (Res1.tmp rfl) (ResL.nil))); (apply fin_R (Hn := [DSK p S, own 5 1 (.slice none 0 0) 0 []])); (case p => exact (by (repeat first | with_reducible constructor | constructor))); (rw [hrd]; exact ⟨none, 0, rfl, rfl⟩))
  · have e4 : (256 + 63) / 64 = 4 := rfl
    rw [e4] at he
    (try dsimp only [List.cons_append, List.nil_append])
    obtain ⟨l, hlq⟩ : ∃ l, l = pgAt S.V addr.toNat := ⟨_, rfl⟩
    rw [show (S.V.drop (addr.toNat * 256)).take 256 = l from hlq.symm] at hr hl2
    (apply Tri.op; rfl; apply o_move; rfl; rfl; apply Tri.op; rfl; apply o_extract; rfl; rfl; rfl; apply Tri.op; rfl; apply o_extract; rfl; rfl; rfl; apply Tri.op; rfl; apply o_assign; rfl; rfl; apply Tri.op; rfl; apply o_assign; rfl; rfl; refine Tri.nil (Tri.thenN (Tri.seq (Tri.seq (Tri.region ?_)))); apply Tri.op; rfl; apply o_move; rfl; rfl; apply Tri.op; rfl; apply o_neq; rfl; rfl; rfl; refine Tri.nil (Tri.thenN ?_))
    ((with_reducible apply Tri.setb 20 (false)); (case h => rfl); (case hi => rfl))
    (apply Tri.condF; rfl; rfl; refine Tri.skip (Tri.thenN (Tri.seq (Tri.region ?_))); apply Tri.op; rfl)
    (apply o_loadAll; (case hx => rfl); (case p => (with_reducible repeat constructor)); (case hl => exact tabL_length); (case hn => rfl))
    (apply Tri.op; rfl; apply o_move; rfl; rfl; apply Tri.op; rfl)
    (apply o_callR (hs := page_Get (.slice A0 256 256) l); (case hargs => (repeat first | exact evs.nil | (apply evs.cons; case a => rfl))); (case hpre => exact rdw_ex (by (with_reducible repeat constructor)) hr); (case hn => rfl))
    rintro r2 H2 ⟨A, c, rfl, rfl⟩
    (try dsimp only [List.cons_append, List.nil_append])
    have hrd : rdPg S addr kind = if (getP l).2 = 0 ∧ (getP l).1.a = addr ∧ (getP l).1.k = kind then getP l else (zeroP, 3) := by rw [rdPg, if_neg (by rw [he]; simp), hlq]
    obtain ⟨g, hg⟩ : ∃ g, g = getP l := ⟨_, rfl⟩
    rw [← hg] at hrd ⊢
    obtain ⟨q, e⟩ := g
    dsimp only at hrd ⊢
    (apply Tri.op; rfl; apply o_move; rfl; rfl; apply Tri.op; rfl; apply o_extract; rfl; rfl; rfl; apply Tri.op; rfl; apply o_extract; rfl; rfl; rfl; apply Tri.op; rfl)
    (apply o_alloc; (case hn => rfl); intro b12)
    (apply Tri.op; rfl)
    (apply o_storeAll (ys := pgL q (.slice A q.b.length c)); (case hx => rfl); (case hy => rfl); (case p => (with_reducible repeat constructor)); (case hl => rfl); (case hc => rfl); (case h1 => exact pgL_one q A _ c))
    (apply Tri.op; rfl; apply o_assign; rfl; rfl; refine Tri.nil (Tri.thenN (Tri.seq (Tri.seq (Tri.region ?_)))); apply Tri.op; rfl; apply o_move; rfl; rfl; apply Tri.op; rfl; apply o_neq; rfl; rfl; rfl; apply Tri.op; rfl; apply o_move; rfl; rfl)
    by_cases h2 : e = 0
    · subst h2
      ((with_reducible apply Tri.setb 31 (false)); (case h => rfl); (case hi => rfl))
      (apply Tri.opYes; rfl; rfl; rfl; apply o_fieldAddr; rfl; rfl; apply Tri.opYes; rfl; rfl; rfl; apply o_load; rfl; (with_reducible repeat constructor); rfl; rfl; apply Tri.opYes; rfl; rfl; rfl; apply o_move; rfl; rfl; apply Tri.opYes; rfl; rfl; rfl; apply o_neq; rfl; rfl; rfl; apply Tri.op; rfl; apply o_pickF; (iterate 4 rfl); apply Tri.op; rfl; apply o_move; rfl; rfl)
      by_cases h3 : q.a = addr
      · ((with_reducible apply Tri.setb 37 (false)); (case h => rfl); (case hi => simp [h3]))
        (apply Tri.opYes; rfl; rfl; rfl; apply o_fieldAddr; rfl; rfl; apply Tri.opYes; rfl; rfl; rfl; apply o_load; rfl; (with_reducible repeat constructor); rfl; rfl; apply Tri.opYes; rfl; rfl; rfl; apply o_move; rfl; rfl; apply Tri.opYes; rfl; rfl; rfl; apply o_neq; rfl; rfl; rfl; apply Tri.op; rfl; apply o_pickF; (iterate 4 rfl); refine Tri.nil (Tri.thenN ?_))
        by_cases h4 : q.k = kind
        · rw [if_pos ⟨rfl, h3, h4⟩] at hrd
          ((with_reducible apply Tri.setb 42 (false)); (case h => rfl); (case hi => simp [h4]))
          (apply Tri.condF; rfl; rfl; refine Tri.skip (Tri.thenN (Tri.seq (Tri.region ?_))); apply Tri.op; rfl)
          (apply o_loadAll (cs := pgL q (.slice A q.b.length c)); (case hx => rfl); (case p => exact (by (with_reducible repeat constructor))); (case hl => rfl); (case hn => rfl))
          (apply Tri.op; rfl)
          (apply o_storeAll (ys := pgL q (.slice A q.b.length c)); (case hx => rfl); (case hy => rfl); (case p => (with_reducible repeat constructor)); (case hl => rfl); (case hc => rfl); (case h1 => exact pgL_one q A _ c))
          (apply Tri.op; rfl; apply o_assign; rfl; rfl; refine Tri.nil (Tri.thenN (Tri.ret ?_)))
          (apply Tri.fin; (case hr => rfl); (case h => exact ResL.cons ((Res1.agg rfl (by (with_reducible repeat constructor)) (by rw [List.drop_zero]; exact List.take_of_length_le (Nat.le_of_eq (pgL_len q (.slice A q.b.length c)))) (pgL_len q (.slice A q.b.length c)))) (ResL.cons (Res1.tmp rfl) (ResL.nil))); (apply fin_R (Hn := [DSK p S, own 5 1 (.slice A q.b.length c) q.b.length (B8 q.b)])); (case p => exact (by (repeat first | with_reducible constructor | constructor))); (rw [hrd]; exact ⟨A, c, rfl, rfl⟩))
        · rw [if_neg (fun h => h4 h.2.2)] at hrd
          have h4' : ¬ ((q.k.toNat : Nat) : Int) = kind.toNat := fun h => h4 (UInt8.toNat_inj.1 (by omega))
          ((with_reducible apply Tri.setb 42 (true)); (case h => rfl); (case hi => (rw [decide_eq_true]; exact h4')))
          (apply Tri.condT; rfl; rfl; refine Tri.seq (Tri.region ?_); apply Tri.op; rfl; apply o_build0; rfl; apply Tri.op; rfl)
          (apply o_storeAll (ys := pgL zeroP (.slice none 0 0)); (case hx => rfl); (case hy => rfl); (case p => (with_reducible repeat constructor)); (case hl => rfl); (case hc => rfl); (case h1 => exact pgL_one zeroP none 0 0))
          (apply Tri.op; rfl; apply o_assign; rfl; rfl; refine Tri.nil (Tri.thenN (Tri.ret (Tri.thenR ?_))))
          (with_reducible apply Tri.ownNil 5 1)
          (apply Tri.fin; (case hr => rfl); (case h => exact ResL.cons ((Res1.agg rfl (by (with_reducible repeat constructor)) (by rw [List.drop_zero]; exact List.take_of_length_le (Nat.le_of_eq (pgL_len zeroP (.slice none 0 0)))) (pgL_len zeroP (.slice none 0 0)))) (ResL.cons (Res1.tmp rfl) (ResL.nil))); (apply fin_R (Hn := [DSK p S, own 5 1 (.slice none 0 0) 0 []])); (case p => exact (by (repeat first | with_reducible constructor | constructor))); (rw [hrd]; exact ⟨none, 0, rfl, rfl⟩))
      · rw [if_neg (fun h => h3 h.2.1)] at hrd
        ((with_reducible apply Tri.setb 37 (true)); (case h => rfl); (case hi => (rw [decide_eq_true]; exact h3)))
        ((iterate 4 apply Tri.opNo (c := true); (iterate 6 rfl)); apply Tri.op; rfl; apply o_pickT; (iterate 4 rfl); refine Tri.nil (Tri.thenN ?_); apply Tri.condT; rfl; rfl; refine Tri.seq (Tri.region ?_); apply Tri.op; rfl; apply o_build0; rfl; apply Tri.op; rfl)
        (apply o_storeAll (ys := pgL zeroP (.slice none 0 0)); (case hx => rfl); (case hy => rfl); (case p => (with_reducible repeat constructor)); (case hl => rfl); (case hc => rfl); (case h1 => exact pgL_one zeroP none 0 0))
        (apply Tri.op; rfl; apply o_assign; rfl; rfl; refine Tri.nil (Tri.thenN (Tri.ret (Tri.thenR ?_))))
        (with_reducible apply Tri.ownNil 5 1)
        (apply Tri.fin; (case hr => rfl); (case h => exact ResL.cons ((Res1.agg rfl (by (with_reducible repeat constructor)) (by rw [List.drop_zero]; exact List.take_of_length_le (Nat.le_of_eq (pgL_len zeroP (.slice none 0 0)))) (pgL_len zeroP (.slice none 0 0)))) (ResL.cons (Res1.tmp rfl) (ResL.nil))); (apply fin_R (Hn := [DSK p S, own 5 1 (.slice none 0 0) 0 []])); (case p => exact (by (repeat first | with_reducible constructor | constructor))); (rw [hrd]; exact ⟨none, 0, rfl, rfl⟩))
    · rw [if_neg (fun h => h2 h.1)] at hrd
      ((with_reducible apply Tri.setb 31 (true)); (case h => rfl); (case hi => (rw [decide_eq_true]; omega)))
      ((iterate 4 apply Tri.opNo (c := true); (iterate 6 rfl)); apply Tri.op; rfl; apply o_pickT; (iterate 4 rfl); apply Tri.op; rfl; apply o_move; rfl; rfl; (iterate 4 apply Tri.opNo (c := true); (iterate 6 rfl)); apply Tri.op; rfl; apply o_pickT; (iterate 4 rfl); refine Tri.nil (Tri.thenN ?_); apply Tri.condT; rfl; rfl; refine Tri.seq (Tri.region ?_); apply Tri.op; rfl; apply o_build0; rfl; apply Tri.op; rfl)
      (apply o_storeAll (ys := pgL zeroP (.slice none 0 0)); (case hx => rfl); (case hy => rfl); (case p => (with_reducible repeat constructor)); (case hl => rfl); (case hc => rfl); (case h1 => exact pgL_one zeroP none 0 0))
      (apply Tri.op; rfl; apply o_assign; rfl; rfl; refine Tri.nil (Tri.thenN (Tri.ret (Tri.thenR ?_))))
      (with_reducible apply Tri.ownNil 5 1)
      (apply Tri.fin; (case hr => rfl); (case h => exact ResL.cons ((Res1.agg rfl (by (with_reducible repeat constructor)) (by rw [List.drop_zero]; exact List.take_of_length_le (Nat.le_of_eq (pgL_len zeroP (.slice none 0 0)))) (pgL_len zeroP (.slice none 0 0)))) (ResL.cons (Res1.tmp rfl) (ResL.nil))); (apply fin_R (Hn := [DSK p S, own 5 1 (.slice none 0 0) 0 []])); (case p => exact (by (repeat first | with_reducible constructor | constructor))); (rw [hrd]; exact ⟨none, 0, rfl, rfl⟩))
/-- a page that is written: the disk behind it, and the error -/
def wrPg (S : DS) (q : PG) : DS × Nat := if okP q = true then S.wrs (q.a * 4) (secs (putP q) 4) else (S, 1)
theorem padP {q : PG} (h : okP q = true) : padB (putP q) = putP q := by
  have hl := putP_length q (okP_spec h).2.2.2
  unfold padB padN
  rw [hl]; simp
set_option maxHeartbeats 4000000 in
theorem page_Write (p : Nat) (S : DS) (q : PG) (v : Value) (h1 : PH) (hr : Rd h1 v q.b.length (B8 q.b)) (hg : q.g < 18446744073709551616) (hS : S.ok) (hl : S.W.length ≤ 800000) :
    Gv.Spec Try.prog 58 #[tabV, .pointer (some ⟨p, 0, none⟩), pgV q v] [DSK p S, Ex h1]
    (fun r H' => r = .int .i64 ((wrPg S q).2 : Int) ∧ H' = [DSK p (wrPg S q).1, Ex h1]) := by
  refine Gv.Spec.of (fun w h0 hw => ?_)
  refine Calls.enter Try.func58 rfl rfl rfl hw ?_
  simp only [argSlots]
  (try dsimp only [List.cons_append, List.nil_append])
  (refine Tri.seq (Tri.region ?_); apply Tri.op; rfl)
  (first | (apply o_boxA; (case hx => rfl); (case hn => rfl); intro b3) | (apply o_box1; (case hx => rfl); (case h1 => rfl); (case hn => rfl); intro b3))
  (apply Tri.op; rfl)
  (first | (apply o_boxA; (case hx => rfl); (case hn => rfl); intro b5) | (apply o_box1; (case hx => rfl); (case h1 => rfl); (case hn => rfl); intro b5))
  (apply Tri.op; rfl; apply o_assign; rfl; rfl; refine Tri.nil (Tri.thenN (Tri.seq (Tri.region ?_))); apply Tri.op; rfl)
  (apply o_loadAll; (case hx => rfl); (case p => (with_reducible repeat constructor)); (case hl => exact tabL_length); (case hn => rfl))
  (apply Tri.op; rfl)
  (apply o_loadAll (cs := pgL q v); (case hx => rfl); (case p => exact (by (with_reducible repeat constructor))); (case hl => rfl); (case hn => rfl))
  (apply Tri.op; rfl)
  by_cases hok : okP q = true
  · have hs := okP_spec hok
    have hpl := putP_length q hs.2.2.2
    (apply o_callR (hs := page_Put q v hok hg); (case hargs => (repeat first | exact evs.nil | (apply evs.cons; case a => rfl))); (case hpre => exact rdw_ex (by (with_reducible repeat constructor)) hr); (case hn => rfl))
    rintro r H' ⟨u, rfl, rfl⟩
    (try dsimp only [List.cons_append, List.nil_append])
    refine Tri.shut (e := 5) (size := 1) (v := u) (by (with_reducible repeat constructor)) (fun h2 ho => ?_)
    (apply Tri.op; rfl; apply o_move; rfl; rfl; apply Tri.op; rfl; apply o_extract; rfl; rfl; rfl; apply Tri.op; rfl; apply o_extract; rfl; rfl; rfl; apply Tri.op; rfl; apply o_assign; rfl; rfl; apply Tri.op; rfl; apply o_assign; rfl; rfl; refine Tri.nil (Tri.thenN (Tri.seq (Tri.seq (Tri.region ?_)))); apply Tri.op; rfl; apply o_move; rfl; rfl; apply Tri.op; rfl; apply o_neq; rfl; rfl; rfl; refine Tri.nil (Tri.thenN ?_))
    ((with_reducible apply Tri.setb 16 (false)); (case h => rfl); (case hi => rfl))
    (apply Tri.condF; rfl; rfl; refine Tri.skip (Tri.thenN (Tri.seq (Tri.region ?_))); apply Tri.op; rfl; apply o_move; rfl; rfl; apply Tri.op; rfl; apply o_fieldAddr; rfl; rfl; apply Tri.op; rfl; apply o_load; rfl; (with_reducible repeat constructor); rfl; rfl; apply Tri.op; rfl; apply o_move; rfl; rfl; apply Tri.op; rfl)
    (apply o_callS (hs := page_WriteRaw p S q.a u (putP q) h2 (own_Rd ho) hS (by omega) (by omega) (by omega)); (case hargs => (repeat first | exact evs.nil | (apply evs.cons; case a => rfl))); (case p => (repeat first | with_reducible constructor | constructor)); (case hn => rfl))
    rintro r2 H2 ⟨rfl, rfl⟩
    rw [padP hok, hpl]
    (try dsimp only [List.cons_append, List.nil_append])
    (apply Tri.op; rfl; apply o_assign; rfl; rfl; refine Tri.nil (Tri.thenN (Tri.ret ?_)))
    have hwp : wrPg S q = S.wrs (q.a * 4) (secs (putP q) (256 / 64)) := by rw [wrPg, if_pos hok]
    rw [← hwp]
    (apply Tri.fin; (case hr => rfl); (case h => exact ResL.cons (Res1.tmp rfl) (ResL.nil)); (apply fin_R (Hn := [DSK p (wrPg S q).1, Ex h1])); (case p => exact (by (repeat first | with_reducible constructor | constructor))); exact ⟨rfl, rfl⟩)
  · have hno : okP q = false := by simpa using hok
    (apply o_callV (hs := page_Put_no q v hno); (case hargs => (repeat first | exact evs.nil | (apply evs.cons; case a => rfl))); (case hpre => exact rdw_ex (by (with_reducible repeat constructor)) hr); (case hn => rfl))
    (apply Tri.op; rfl; apply o_move; rfl; rfl; apply Tri.op; rfl; apply o_extract; rfl; rfl; rfl; apply Tri.op; rfl; apply o_extract; rfl; rfl; rfl; apply Tri.op; rfl; apply o_assign; rfl; rfl; apply Tri.op; rfl; apply o_assign; rfl; rfl; refine Tri.nil (Tri.thenN (Tri.seq (Tri.seq (Tri.region ?_)))); apply Tri.op; rfl; apply o_move; rfl; rfl; apply Tri.op; rfl; apply o_neq; rfl; rfl; rfl; refine Tri.nil (Tri.thenN ?_))
    ((with_reducible apply Tri.setb 16 (true)); (case h => rfl); (case hi => rfl))
    (apply Tri.condT; rfl; rfl; refine Tri.seq (Tri.region ?_); apply Tri.op; rfl; apply o_move; rfl; rfl; apply Tri.op; rfl; apply o_assign; rfl; rfl; refine Tri.nil (Tri.thenN (Tri.ret (Tri.thenR ?_))))
    have hwp : wrPg S q = (S, 1) := by rw [wrPg, if_neg hok]
    rw [hwp]
    (apply Tri.fin; (case hr => rfl); (case h => exact ResL.cons (Res1.tmp rfl) (ResL.nil)); (apply fin_R (Hn := [DSK p S, Ex h1])); (case p => exact (by (repeat first | with_reducible constructor | constructor))); exact ⟨rfl, rfl⟩)
end Go.Proofs.Ytckdlfbbkemklaa
end
section
/- node: what its functions compute of inner nodes, in plain terms. -/
namespace Go.Gv
set_option linter.unusedVariables false
set_option linter.unusedSimpArgs false

abbrev KEY := Int × Int
def betw (n low high : Int) : Bool := decide (low ≤ n) && decide (n ≤ high)
def keyOk (k : KEY) : Bool := betw k.1 0 4294967295
def lessK (a b : KEY) : Bool := decide (a.1 < b.1) || (decide (a.1 = b.1) && decide (a.2 < b.2))
/-- may the key at place i be there? -/
def keyAt (ks : List KEY) (i : Nat) : Bool := keyOk (ks.getD i (0, 0)) && (decide (i = 0) || lessK (ks.getD (i - 1) (0, 0)) (ks.getD i (0, 0)))
def kidAt (kids : List Int) (i : Nat) : Bool := betw (kids.getD i 0) 2 511 && !decide (kids.getD i 0 ∈ kids.take i)
def keysTo (ks : List KEY) : Nat → Bool
  | 0 => true
  | i + 1 => keysTo ks i && keyAt ks i
def kidsTo (kids : List Int) : Nat → Bool
  | 0 => true
  | i + 1 => kidsTo kids i && kidAt kids i
def innerB (ks : List KEY) (kids : List Int) : Bool := keysTo ks ks.length && kidsTo kids kids.length && decide (ks.length = kids.length) && betw (kids.length : Int) 1 16
theorem keysTo_mono (ks : List KEY) {i : Nat} (h : keysTo ks i = false) : ∀ j, i ≤ j → keysTo ks j = false
  | 0, hj => by obtain rfl : i = 0 := by omega
                exact h
  | j + 1, hj => by
    by_cases e : i = j + 1
    · subst e; exact h
    · rw [keysTo, keysTo_mono ks h j (by omega), Bool.false_and]
theorem kidsTo_mono (ks : List Int) {i : Nat} (h : kidsTo ks i = false) : ∀ j, i ≤ j → kidsTo ks j = false
  | 0, hj => by obtain rfl : i = 0 := by omega
                exact h
  | j + 1, hj => by
    by_cases e : i = j + 1
    · subst e; exact h
    · rw [kidsTo, kidsTo_mono ks h j (by omega), Bool.false_and]
def n64 (t : Int) : Nat := (t % 18446744073709551616).toNat
def keyB (k : KEY) : List UInt8 := bigB k.1.toNat 4 ++ bigB (n64 k.2) 8
theorem keyB_length (k : KEY) : (keyB k).length = 12 := by simp [keyB, bigB_length]
/-- the bytes of the first i children -/
def kidsB (ks : List KEY) (kids : List Int) : Nat → List UInt8
  | 0 => []
  | i + 1 => kidsB ks kids i ++ (keyB (ks.getD i (0, 0)) ++ bigB (kids.getD i 0).toNat 2)
theorem kidsB_length (ks : List KEY) (kids : List Int) : ∀ i, (kidsB ks kids i).length = i * 14
  | 0 => rfl
  | i + 1 => by rw [kidsB, List.length_append, kidsB_length ks kids i, List.length_append, keyB_length, bigB_length]; omega
def putI (ks : List KEY) (kids : List Int) : List UInt8 := UInt8.ofNat kids.length :: kidsB ks kids kids.length
/-- a number of 64 bits, with a sign -/
def s64 (n : Nat) : Int := if n < 9223372036854775808 then (n : Int) else (n : Int) - 18446744073709551616
def keyG (l : List UInt8) (i : Nat) : KEY := ((numB ((l.drop (1 + i * 14)).take 4) : Int), s64 (numB ((l.drop (5 + i * 14)).take 8)))
def kidG (l : List UInt8) (i : Nat) : Int := (numB ((l.drop (13 + i * 14)).take 2) : Int)
def keysG (l : List UInt8) (i : Nat) : List KEY := (List.range i).map (keyG l)
def kidsG (l : List UInt8) (i : Nat) : List Int := (List.range i).map (kidG l)
def cntG (l : List UInt8) : Nat := (l.getD 0 0).toNat
def getI (l : List UInt8) : (List KEY × List Int) × Nat :=
  if l.length = 0 ∨ l.length ≠ 1 + cntG l * 14 then (([], []), 3)
  else if innerB (keysG l (cntG l)) (kidsG l (cntG l)) = true ∧ putI (keysG l (cntG l)) (kidsG l (cntG l)) = l then ((keysG l (cntG l), kidsG l (cntG l)), 0) else (([], []), 3)
end Go.Gv
end
section
/- node: leaves, in plain terms. -/
namespace Go.Gv
set_option linter.unusedVariables false
set_option linter.unusedSimpArgs false

structure ENT where
  key : KEY
  fin : Int
  addr : Int
  len : Int
  count : Int
  codec : Int
  crc : Nat
def ent0 : ENT := ⟨(0, 0), 0, 0, 0, 0, 0, 0⟩
def pagesE (n : Int) : Int := (n + 255) / 256
def entOk (e : ENT) : Bool := keyOk e.key && decide (e.key.2 ≤ e.fin) && betw e.addr 2 511 && betw e.len 1 65535 && decide (e.addr + pagesE e.len ≤ 512) && betw e.count 1 200 && betw e.codec 0 15
def afterE (p e : ENT) : Bool := lessK p.key e.key && !(decide (p.key.1 = e.key.1) && decide (e.key.2 ≤ p.fin))
def entAt (E : List ENT) (i : Nat) : Bool := entOk (E.getD i ent0) && (decide (i = 0) || afterE (E.getD (i - 1) ent0) (E.getD i ent0))
def entsTo (E : List ENT) : Nat → Bool
  | 0 => true
  | i + 1 => entsTo E i && entAt E i
def leafB (E : List ENT) : Bool := entsTo E E.length && betw (E.length : Int) 1 7
theorem entsTo_mono (ks : List ENT) {i : Nat} (h : entsTo ks i = false) : ∀ j, i ≤ j → entsTo ks j = false
  | 0, hj => by obtain rfl : i = 0 := by omega
                exact h
  | j + 1, hj => by
    by_cases e : i = j + 1
    · subst e; exact h
    · rw [entsTo, entsTo_mono ks h j (by omega), Bool.false_and]
theorem entAt_lt {E : List ENT} {i n : Nat} (h : entAt E i = false) (hi : i < n) : entsTo E n = false := entsTo_mono E (i := i + 1) (by rw [entsTo, h, Bool.and_false]) n (by omega)
theorem entsTo_at {E : List ENT} : ∀ {n : Nat}, entsTo E n = true → ∀ i, i < n → entAt E i = true
  | n + 1, h, i, hi => by
    rw [entsTo, Bool.and_eq_true] at h
    by_cases e : i = n
    · subst e; exact h.2
    · exact entsTo_at h.1 i (by omega)
theorem leaf_no {E : List ENT} (h : entsTo E E.length = false) : leafB E = false := by rw [leafB, h]; rfl
/-- a node may be -/
def rightN (leaf : Bool) (E : List ENT) (K : List KEY) (D : List Int) : Bool :=
  if leaf then decide (K.length = 0) && (decide (D.length = 0) && leafB E) else decide (E.length = 0) && innerB K D
def entB (e : ENT) : List UInt8 := keyB e.key ++ bigB (n64 e.fin) 8 ++ bigB e.addr.toNat 2 ++ bigB e.len.toNat 2 ++ [UInt8.ofNat e.count.toNat, UInt8.ofNat e.codec.toNat] ++ bigB e.crc 4
theorem entB_length (e : ENT) : (entB e).length = 30 := by simp [entB, keyB_length, bigB_length]
def entsB (E : List ENT) : Nat → List UInt8
  | 0 => []
  | i + 1 => entsB E i ++ entB (E.getD i ent0)
theorem entsB_length (E : List ENT) : ∀ i, (entsB E i).length = i * 30
  | 0 => rfl
  | i + 1 => by rw [entsB, List.length_append, entsB_length E i, entB_length]; omega
def putL (E : List ENT) : List UInt8 := UInt8.ofNat E.length :: entsB E E.length
def putN (leaf : Bool) (E : List ENT) (K : List KEY) (D : List Int) : List UInt8 := if leaf then putL E else putI K D
/-- the entry that stands at the head of bytes -/
def entP (l : List UInt8) : ENT := ⟨((numB (l.take 4) : Int), s64 (numB ((l.drop 4).take 8))), s64 (numB ((l.drop 12).take 8)), (numB ((l.drop 20).take 2) : Int), (numB ((l.drop 22).take 2) : Int), (numB ((l.drop 24).take 1) : Int), (numB ((l.drop 25).take 1) : Int), numB ((l.drop 26).take 4)⟩
def entsG (l : List UInt8) (i : Nat) : List ENT := (List.range i).map fun k => entP (l.drop (1 + k * 30))
theorem entsG_length (l : List UInt8) (i : Nat) : (entsG l i).length = i := by simp [entsG]
theorem entsG_succ (l : List UInt8) (i : Nat) : entsG l (i + 1) = entsG l i ++ [entP (l.drop (1 + i * 30))] := by rw [entsG, List.range_succ, List.map_append]; rfl
def getL (l : List UInt8) : List ENT × Nat :=
  if l.length = 0 ∨ l.length ≠ 1 + cntG l * 30 then ([], 3)
  else if leafB (entsG l (cntG l)) = true ∧ putL (entsG l (cntG l)) = l then (entsG l (cntG l), 0) else ([], 3)
/-- Go's own bounds of numbers -/
def i64R (n : Int) : Prop := -9223372036854775808 ≤ n ∧ n ≤ 9223372036854775807
def entR (e : ENT) : Prop := i64R e.key.2 ∧ i64R e.fin ∧ e.crc < 4294967296
def keyR (k : KEY) : Prop := i64R k.2
theorem s64_n64 {t : Int} (h : i64R t) : s64 (n64 t) = t := by
  unfold i64R at h
  unfold s64 n64
  split <;> omega
theorem n64_lt (t : Int) : n64 t < 18446744073709551616 := by unfold n64; omega
theorem n64_mod (t : Int) : n64 t % 256 ^ 8 = n64 t := Nat.mod_eq_of_lt (n64_lt t)
theorem numB_one (c : UInt8) : numB [c] = c.toNat := by simp [numB]
theorem byte_of {n : Int} (h0 : 0 ≤ n) (h1 : n ≤ 255) : ((UInt8.ofNat n.toNat).toNat : Int) = n := by
  rw [UInt8.toNat_ofNat']; omega
theorem entOk_spec {e : ENT} (h : entOk e = true) : (0 ≤ e.key.1 ∧ e.key.1 ≤ 4294967295) ∧ e.key.2 ≤ e.fin ∧ (2 ≤ e.addr ∧ e.addr ≤ 511) ∧ (1 ≤ e.len ∧ e.len ≤ 65535) ∧ e.addr + pagesE e.len ≤ 512 ∧ (1 ≤ e.count ∧ e.count ≤ 200) ∧ 0 ≤ e.codec ∧ e.codec ≤ 15 := by
  simp only [entOk, keyOk, betw, Bool.and_eq_true, decide_eq_true_eq] at h
  obtain ⟨⟨⟨⟨⟨⟨h1, h2⟩, h3⟩, h4⟩, h5⟩, h6⟩, h7⟩ := h
  exact ⟨h1, h2, h3, h4, h5, h6, h7⟩
theorem seg0 {α : Type} (B C : List α) (n : Nat) (hB : B.length = n) : (B ++ C).take n = B := by subst hB; rw [List.take_left]
theorem ent_back (e : ENT) (rest : List UInt8) (h : entOk e = true) (hr : entR e) : entP (entB e ++ rest) = e := by
  obtain ⟨h1, h2, h3, h4, h5, h6, h7⟩ := entOk_spec h
  obtain ⟨r1, r2, r3⟩ := hr
  have k1 : (entB e ++ rest).take 4 = bigB e.key.1.toNat 4 := by
    rw [show entB e ++ rest = bigB e.key.1.toNat 4 ++ (bigB (n64 e.key.2) 8 ++ (bigB (n64 e.fin) 8 ++ (bigB e.addr.toNat 2 ++ (bigB e.len.toNat 2 ++ ([UInt8.ofNat e.count.toNat, UInt8.ofNat e.codec.toNat] ++ (bigB e.crc 4 ++ rest)))))) by simp [entB, keyB, List.append_assoc]]
    exact seg0 _ _ _ (bigB_length _ _)
  have k2 : ((entB e ++ rest).drop 4).take 8 = bigB (n64 e.key.2) 8 := by
    rw [show entB e ++ rest = bigB e.key.1.toNat 4 ++ bigB (n64 e.key.2) 8 ++ (bigB (n64 e.fin) 8 ++ (bigB e.addr.toNat 2 ++ (bigB e.len.toNat 2 ++ ([UInt8.ofNat e.count.toNat, UInt8.ofNat e.codec.toNat] ++ (bigB e.crc 4 ++ rest))))) by simp [entB, keyB, List.append_assoc]]
    exact seg _ _ _ _ _ (bigB_length _ _) (bigB_length _ _)
  have k3 : ((entB e ++ rest).drop 12).take 8 = bigB (n64 e.fin) 8 := by
    rw [show entB e ++ rest = keyB e.key ++ bigB (n64 e.fin) 8 ++ (bigB e.addr.toNat 2 ++ (bigB e.len.toNat 2 ++ ([UInt8.ofNat e.count.toNat, UInt8.ofNat e.codec.toNat] ++ (bigB e.crc 4 ++ rest)))) by simp [entB, List.append_assoc]]
    exact seg _ _ _ _ _ (keyB_length _) (bigB_length _ _)
  have k4 : ((entB e ++ rest).drop 20).take 2 = bigB e.addr.toNat 2 := by
    rw [show entB e ++ rest = (keyB e.key ++ bigB (n64 e.fin) 8) ++ bigB e.addr.toNat 2 ++ (bigB e.len.toNat 2 ++ ([UInt8.ofNat e.count.toNat, UInt8.ofNat e.codec.toNat] ++ (bigB e.crc 4 ++ rest))) by simp [entB, List.append_assoc]]
    exact seg _ _ _ _ _ (by simp [keyB_length, bigB_length]) (bigB_length _ _)
  have k5 : ((entB e ++ rest).drop 22).take 2 = bigB e.len.toNat 2 := by
    rw [show entB e ++ rest = (keyB e.key ++ bigB (n64 e.fin) 8 ++ bigB e.addr.toNat 2) ++ bigB e.len.toNat 2 ++ ([UInt8.ofNat e.count.toNat, UInt8.ofNat e.codec.toNat] ++ (bigB e.crc 4 ++ rest)) by simp [entB, List.append_assoc]]
    exact seg _ _ _ _ _ (by simp [keyB_length, bigB_length]) (bigB_length _ _)
  have k6 : ((entB e ++ rest).drop 24).take 1 = [UInt8.ofNat e.count.toNat] := by
    rw [show entB e ++ rest = (keyB e.key ++ bigB (n64 e.fin) 8 ++ bigB e.addr.toNat 2 ++ bigB e.len.toNat 2) ++ [UInt8.ofNat e.count.toNat] ++ ([UInt8.ofNat e.codec.toNat] ++ (bigB e.crc 4 ++ rest)) by simp [entB, List.append_assoc]]
    exact seg _ _ _ _ _ (by simp [keyB_length, bigB_length]) rfl
  have k7 : ((entB e ++ rest).drop 25).take 1 = [UInt8.ofNat e.codec.toNat] := by
    rw [show entB e ++ rest = (keyB e.key ++ bigB (n64 e.fin) 8 ++ bigB e.addr.toNat 2 ++ bigB e.len.toNat 2 ++ [UInt8.ofNat e.count.toNat]) ++ [UInt8.ofNat e.codec.toNat] ++ (bigB e.crc 4 ++ rest) by simp [entB, List.append_assoc]]
    exact seg _ _ _ _ _ (by simp [keyB_length, bigB_length]) rfl
  have k8 : ((entB e ++ rest).drop 26).take 4 = bigB e.crc 4 := by
    rw [show entB e ++ rest = (keyB e.key ++ bigB (n64 e.fin) 8 ++ bigB e.addr.toNat 2 ++ bigB e.len.toNat 2 ++ [UInt8.ofNat e.count.toNat, UInt8.ofNat e.codec.toNat]) ++ bigB e.crc 4 ++ rest by simp [entB, List.append_assoc]]
    exact seg _ _ _ _ _ (by simp [keyB_length, bigB_length]) (bigB_length _ _)
  rw [entP, k1, k2, k3, k4, k5, k6, k7, k8, num_big, num_big, num_big, num_big, num_big, numB_one, numB_one, num_big, n64_mod, n64_mod, s64_n64 r1, s64_n64 r2, byte_of (by omega) (by omega), byte_of h7.1 (by omega)]
  obtain ⟨⟨a, b⟩, c, d, f, g, m, n⟩ := e
  simp only at h1 h3 h4 r3 ⊢
  congr 1
  · congr 1; omega
  · omega
  · omega
  · omega
theorem entsB_at (E : List ENT) (rest : List UInt8) : ∀ n i, i < n → ∃ more, (entsB E n ++ rest).drop (i * 30) = entB (E.getD i ent0) ++ more
  | n + 1, i, hi => by
    by_cases e : i = n
    · subst e
      refine ⟨rest, ?_⟩
      rw [entsB, List.append_assoc, ← entsB_length E i, List.drop_left]
    · obtain ⟨m, hm⟩ := entsB_at E (entB (E.getD n ent0) ++ rest) n i (by omega)
      exact ⟨m, by rw [entsB, List.append_assoc]; exact hm⟩
theorem leaf_spec {E : List ENT} (h : leafB E = true) : entsTo E E.length = true ∧ 1 ≤ E.length ∧ E.length ≤ 7 := by
  simp only [leafB, betw, Bool.and_eq_true, decide_eq_true_eq] at h
  exact ⟨h.1, by omega, by omega⟩
theorem putL_length (E : List ENT) : (putL E).length = 1 + E.length * 30 := by rw [putL, List.length_cons, entsB_length]; omega
theorem putI_length (K : List KEY) (D : List Int) : (putI K D).length = 1 + D.length * 14 := by rw [putI, List.length_cons, kidsB_length]; omega
theorem cnt_putL {E : List ENT} (h : E.length ≤ 255) : cntG (putL E) = E.length := by
  show (UInt8.ofNat E.length).toNat = _
  rw [UInt8.toNat_ofNat']; omega
theorem cnt_putI {K : List KEY} {D : List Int} (h : D.length ≤ 255) : cntG (putI K D) = D.length := by
  show (UInt8.ofNat D.length).toNat = _
  rw [UInt8.toNat_ofNat']; omega
theorem ents_back {E : List ENT} (h : leafB E = true) (hr : ∀ e ∈ E, entR e) : entsG (putL E) E.length = E := by
  obtain ⟨h1, h2, h3⟩ := leaf_spec h
  apply List.ext_getElem
  · rw [entsG_length]
  · intro i g1 g2
    have hgd : E.getD i ent0 = E[i] := by rw [List.getD_eq_getElem?_getD, List.getElem?_eq_getElem g2]; rfl
    have hk := entsTo_at h1 i g2
    rw [entAt, Bool.and_eq_true, hgd] at hk
    obtain ⟨m, hm⟩ := entsB_at E [] E.length i g2
    rw [List.append_nil, hgd] at hm
    simp only [entsG, List.getElem_map, List.getElem_range]
    rw [putL, show 1 + i * 30 = i * 30 + 1 by omega, List.drop_succ_cons, hm]
    exact ent_back _ _ hk.1 (hr _ (List.getElem_mem g2))
theorem get_putL {E : List ENT} (h : leafB E = true) (hr : ∀ e ∈ E, entR e) : getL (putL E) = (E, 0) := by
  obtain ⟨h1, h2, h3⟩ := leaf_spec h
  have hc := cnt_putL (E := E) (by omega)
  have hl := putL_length E
  have hb := ents_back h hr
  rw [getL, hc, hb, if_neg (by omega), if_pos ⟨h, rfl⟩]
theorem innerB_spec {ks : List KEY} {kids : List Int} (h : innerB ks kids = true) : keysTo ks ks.length = true ∧ kidsTo kids kids.length = true ∧ ks.length = kids.length ∧ 1 ≤ kids.length ∧ kids.length ≤ 16 := by
  simp only [innerB, betw, Bool.and_eq_true, decide_eq_true_eq] at h
  refine ⟨h.1.1.1, h.1.1.2, h.1.2, ?_, ?_⟩ <;> omega
theorem kidsB_at (K : List KEY) (D : List Int) (rest : List UInt8) : ∀ n i, i < n → ∃ more, (kidsB K D n ++ rest).drop (i * 14) = keyB (K.getD i (0, 0)) ++ bigB (D.getD i 0).toNat 2 ++ more
  | n + 1, i, hi => by
    by_cases e : i = n
    · subst e
      refine ⟨rest, ?_⟩
      rw [kidsB, List.append_assoc, ← kidsB_length K D i, List.drop_left]
    · obtain ⟨m, hm⟩ := kidsB_at K D (keyB (K.getD n (0, 0)) ++ bigB (D.getD n 0).toNat 2 ++ rest) n i (by omega)
      exact ⟨m, by rw [kidsB, List.append_assoc]; exact hm⟩
theorem keysTo_at' {ks : List KEY} : ∀ {n : Nat}, keysTo ks n = true → ∀ i, i < n → keyAt ks i = true
  | n + 1, h, i, hi => by
    rw [keysTo, Bool.and_eq_true] at h
    by_cases e : i = n
    · subst e; exact h.2
    · exact keysTo_at' h.1 i (by omega)
theorem kidsTo_at' {ks : List Int} : ∀ {n : Nat}, kidsTo ks n = true → ∀ i, i < n → kidAt ks i = true
  | n + 1, h, i, hi => by
    rw [kidsTo, Bool.and_eq_true] at h
    by_cases e : i = n
    · subst e; exact h.2
    · exact kidsTo_at' h.1 i (by omega)
theorem kid_back (k : KEY) (d : Int) (m : List UInt8) (hk : keyOk k = true) (hr : keyR k) (hd : 0 ≤ d ∧ d ≤ 65535) :
    ((numB ((keyB k ++ bigB d.toNat 2 ++ m).take 4) : Int), s64 (numB (((keyB k ++ bigB d.toNat 2 ++ m).drop 4).take 8))) = k ∧ (numB (((keyB k ++ bigB d.toNat 2 ++ m).drop 12).take 2) : Int) = d := by
  have hk' : 0 ≤ k.1 ∧ k.1 ≤ 4294967295 := by simpa [keyOk, betw] using hk
  have k1 : (keyB k ++ bigB d.toNat 2 ++ m).take 4 = bigB k.1.toNat 4 := by
    rw [show keyB k ++ bigB d.toNat 2 ++ m = bigB k.1.toNat 4 ++ (bigB (n64 k.2) 8 ++ (bigB d.toNat 2 ++ m)) by simp [keyB, List.append_assoc]]
    exact seg0 _ _ _ (bigB_length _ _)
  have k2 : ((keyB k ++ bigB d.toNat 2 ++ m).drop 4).take 8 = bigB (n64 k.2) 8 := by
    rw [show keyB k ++ bigB d.toNat 2 ++ m = bigB k.1.toNat 4 ++ bigB (n64 k.2) 8 ++ (bigB d.toNat 2 ++ m) by simp [keyB, List.append_assoc]]
    exact seg _ _ _ _ _ (bigB_length _ _) (bigB_length _ _)
  have k3 : ((keyB k ++ bigB d.toNat 2 ++ m).drop 12).take 2 = bigB d.toNat 2 := seg _ _ _ _ _ (keyB_length _) (bigB_length _ _)
  rw [k1, k2, k3, num_big, num_big, num_big, n64_mod, s64_n64 hr]
  refine ⟨Prod.ext ?_ rfl, ?_⟩
  · show ((k.1.toNat % 256 ^ 4 : Nat) : Int) = k.1; omega
  · omega
theorem inner_back {K : List KEY} {D : List Int} (h : innerB K D = true) (hr : ∀ k ∈ K, keyR k) : keysG (putI K D) D.length = K ∧ kidsG (putI K D) D.length = D := by
  obtain ⟨h1, h2, h3, h4, h5⟩ := innerB_spec h
  have key : ∀ i (g1 : i < K.length) (g2 : i < D.length), keyG (putI K D) i = K[i] ∧ kidG (putI K D) i = D[i] := fun i g1 g2 => by
    have hgk : K.getD i (0, 0) = K[i] := by rw [List.getD_eq_getElem?_getD, List.getElem?_eq_getElem g1]; rfl
    have hgd : D.getD i 0 = D[i] := by rw [List.getD_eq_getElem?_getD, List.getElem?_eq_getElem g2]; rfl
    have hk := keysTo_at' h1 i g1
    have hd := kidsTo_at' h2 i g2
    rw [keyAt, Bool.and_eq_true, hgk] at hk
    rw [kidAt, Bool.and_eq_true, hgd] at hd
    have hd' : 2 ≤ D[i] ∧ D[i] ≤ 511 := by simpa [betw] using hd.1
    obtain ⟨m, hm⟩ := kidsB_at K D [] D.length i g2
    rw [List.append_nil, hgk, hgd] at hm
    have hb := kid_back K[i] D[i] m hk.1 (hr _ (List.getElem_mem g1)) ⟨by omega, by omega⟩
    rw [← hm] at hb
    have hdr : ∀ j, (putI K D).drop (1 + j) = (kidsB K D D.length).drop j := fun j => by rw [putI, Nat.add_comm, List.drop_succ_cons]
    have e1 : (putI K D).drop (1 + i * 14) = (kidsB K D D.length).drop (i * 14) := hdr _
    have e2 : (putI K D).drop (5 + i * 14) = ((kidsB K D D.length).drop (i * 14)).drop 4 := by rw [show 5 + i * 14 = 1 + (i * 14 + 4) by omega, hdr, List.drop_drop]
    have e3 : (putI K D).drop (13 + i * 14) = ((kidsB K D D.length).drop (i * 14)).drop 12 := by rw [show 13 + i * 14 = 1 + (i * 14 + 12) by omega, hdr, List.drop_drop]
    rw [keyG, kidG, e1, e2, e3]
    exact hb
  constructor
  · apply List.ext_getElem
    · rw [keysG, List.length_map, List.length_range, h3]
    · intro i g1 g2
      simp only [keysG, List.getElem_map, List.getElem_range]
      exact (key i g2 (by omega)).1
  · apply List.ext_getElem
    · rw [kidsG, List.length_map, List.length_range]
    · intro i g1 g2
      simp only [kidsG, List.getElem_map, List.getElem_range]
      exact (key i (by omega) g2).2
theorem get_putI {K : List KEY} {D : List Int} (h : innerB K D = true) (hr : ∀ k ∈ K, keyR k) : getI (putI K D) = ((K, D), 0) := by
  obtain ⟨h1, h2, h3, h4, h5⟩ := innerB_spec h
  have hc := cnt_putI (K := K) (D := D) (by omega)
  have hl := putI_length K D
  obtain ⟨b1, b2⟩ := inner_back h hr
  rw [getI, hc, b1, b2, if_neg (by omega), if_pos ⟨h, rfl⟩]
end Go.Gv
end
section
/- node: what its small functions answer. -/
namespace Go.Proofs.Ytckdlfbbkemklaa
open Go Go.RowKit Go.Gv
set_option linter.unusedVariables false
set_option linter.unusedSimpArgs false

def keyL (k : KEY) : List Value := [.int .i64 k.1, .int .i64 k.2]
def keyV (k : KEY) : Value := .agg (keyL k).toArray
def KL (ks : List KEY) : List Value := ks.flatMap keyL
def NL (l : List Int) : List Value := l.map (.int .i64)
theorem NL_get (l : List Int) (i : Nat) (h : i < l.length) : (NL l)[i]? = some (.int .i64 (l.getD i 0)) := by
  rw [NL, List.getElem?_map, List.getElem?_eq_getElem h, List.getD_eq_getElem?_getD, List.getElem?_eq_getElem h]; rfl
theorem NL_sub (l : List Int) (hi : Nat) : ((NL l).drop (0 * 1)).take ((hi - 0) * 1) = NL (l.take hi) := by simp [NL, List.map_take]
theorem NL_length (l : List Int) : (NL l).length = l.length := by simp [NL]
theorem KL_length : ∀ ks, (KL ks).length = ks.length * 2
  | [] => rfl
  | x :: W => by
    have := KL_length W
    simp only [KL, keyL, List.flatMap_cons, List.length_append, List.length_cons, List.length_nil] at this ⊢; omega
theorem KL_drop : ∀ (F : List KEY) (k : Nat), (KL F).drop (k * 2) = KL (F.drop k)
  | F, 0 => rfl
  | [], k + 1 => by simp [KL]
  | x :: F, k + 1 => by
    rw [show (k + 1) * 2 = k * 2 + 2 by omega, ← List.drop_drop, List.drop_drop, Nat.add_comm, ← List.drop_drop]
    exact KL_drop F k
theorem KL_two (F : List KEY) (k : Nat) (h : k < F.length) : ((KL F).drop (k * 2)).take 2 = keyL (F.getD k (0, 0)) := by
  rw [KL_drop, List.drop_eq_getElem_cons h, List.getD_eq_getElem?_getD, List.getElem?_eq_getElem h]; rfl
theorem keyL_one (k : KEY) : ∀ y ∈ keyL k, y.oneCell' = true := by
  intro y hy; simp [keyL] at hy; rcases hy with rfl | rfl <;> rfl

set_option maxHeartbeats 1000000 in
theorem node_between (n low high : Int) : SpecR Try.prog 127 #[.int .i64 n, .int .i64 low, .int .i64 high] (fun _ => True) (fun r H' => r = .bool (betw n low high) ∧ H' = []) := by
  refine SpecR.of (fun w _ => ?_)
  refine Calls.enter Try.func127 rfl rfl rfl (St.rebase w) ?_
  simp only [argSlots]
  (refine Tri.seq (Tri.region ?_); apply Tri.op; rfl; apply o_assign; rfl; rfl; refine Tri.nil (Tri.thenN (Tri.seq (Tri.region ?_))); apply Tri.op; rfl; apply o_move; rfl; rfl; apply Tri.op; rfl; apply o_move; rfl; rfl; apply Tri.op; rfl; apply o_geq; rfl; rfl; rfl; apply Tri.op; rfl; apply o_move; rfl; rfl)
  ((with_reducible apply Tri.casesB 10); (case h => rfl); (all_goals intro h))
  · have g := of_decide_eq_true h
    (apply Tri.opYes; rfl; rfl; rfl; apply o_move; rfl; rfl; apply Tri.opYes; rfl; rfl; rfl; apply o_move; rfl; rfl; apply Tri.opYes; rfl; rfl; rfl; apply o_leq; rfl; rfl; rfl; apply Tri.op; rfl; apply o_pickT; (iterate 4 rfl); apply Tri.op; rfl; apply o_assign; rfl; rfl; refine Tri.nil (Tri.thenN (Tri.ret ?_)))
    (apply Tri.fin; (case hr => rfl); (case h => exact ResL.cons (Res1.tmp rfl) (ResL.nil)); (apply fin_R (Hn := [])); (case p => exact (by (repeat first | with_reducible constructor | constructor))); exact ⟨by simp only [tupled]; (rw [betw, decide_eq_true g, Bool.true_and]), rfl⟩)
  · have g := of_decide_eq_false h
    ((iterate 3 apply Tri.opNo (c := false); (iterate 6 rfl)); apply Tri.op; rfl; apply o_pickF; (iterate 4 rfl); apply Tri.op; rfl; apply o_assign; rfl; rfl; refine Tri.nil (Tri.thenN (Tri.ret ?_)))
    (apply Tri.fin; (case hr => rfl); (case h => exact ResL.cons (Res1.tmp rfl) (ResL.nil)); (apply fin_R (Hn := [])); (case p => exact (by (repeat first | with_reducible constructor | constructor))); exact ⟨by simp only [tupled]; (rw [betw, decide_eq_false g, Bool.false_and]), rfl⟩)

set_option maxHeartbeats 1000000 in
theorem node_rightKey (k : KEY) : SpecR Try.prog 128 #[keyV k] (fun _ => True) (fun r H' => r = .bool (keyOk k) ∧ H' = []) := by
  refine SpecR.of (fun w _ => ?_)
  refine Calls.enter Try.func128 rfl rfl rfl (St.rebase w) ?_
  simp only [argSlots]
  (refine Tri.seq (Tri.region ?_); apply Tri.op; rfl)
  (first | (apply o_boxA; (case hx => rfl); (case hn => rfl); intro b1) | (apply o_box1; (case hx => rfl); (case h1 => rfl); (case hn => rfl); intro b1))
  (apply Tri.op; rfl; apply o_assign; rfl; rfl; refine Tri.nil (Tri.thenN (Tri.seq (Tri.region ?_))); apply Tri.op; rfl; apply o_fieldAddr; rfl; rfl; apply Tri.op; rfl; apply o_load; rfl; (with_reducible repeat constructor); rfl; rfl; apply Tri.op; rfl)
  (apply o_callV (hs := node_between k.1 0 4294967295); (case hargs => (repeat first | exact evs.nil | (apply evs.cons; case a => rfl))); (case hpre => exact fun _ _ => trivial); (case hn => rfl))
  (apply Tri.op; rfl; apply o_assign; rfl; rfl; refine Tri.nil (Tri.thenN (Tri.ret ?_)))
  (apply Tri.fin; (case hr => rfl); (case h => exact ResL.cons (Res1.tmp rfl) (ResL.nil)); (apply fin_R (Hn := [])); (case p => exact (by (repeat first | with_reducible constructor | constructor))); exact ⟨by simp only [tupled]; rfl, rfl⟩)

set_option maxHeartbeats 1000000 in
theorem node_Less (a b : KEY) : SpecR Try.prog 99 #[keyV a, keyV b] (fun _ => True) (fun r H' => r = .bool (lessK a b) ∧ H' = []) := by
  refine SpecR.of (fun w _ => ?_)
  refine Calls.enter Try.func99 rfl rfl rfl (St.rebase w) ?_
  simp only [argSlots]
  (refine Tri.seq (Tri.region ?_); apply Tri.op; rfl)
  (first | (apply o_boxA; (case hx => rfl); (case hn => rfl); intro b2) | (apply o_box1; (case hx => rfl); (case h1 => rfl); (case hn => rfl); intro b2))
  (apply Tri.op; rfl)
  (first | (apply o_boxA; (case hx => rfl); (case hn => rfl); intro b3) | (apply o_box1; (case hx => rfl); (case h1 => rfl); (case hn => rfl); intro b3))
  (apply Tri.op; rfl; apply o_assign; rfl; rfl; refine Tri.nil (Tri.thenN (Tri.seq (Tri.region ?_))); apply Tri.op; rfl; apply o_fieldAddr; rfl; rfl; apply Tri.op; rfl; apply o_load; rfl; (with_reducible repeat constructor); rfl; rfl; apply Tri.op; rfl; apply o_fieldAddr; rfl; rfl; apply Tri.op; rfl; apply o_load; rfl; (with_reducible repeat constructor); rfl; rfl; apply Tri.op; rfl; apply o_lss; rfl; rfl; rfl; apply Tri.op; rfl; apply o_move; rfl; rfl)
  ((with_reducible apply Tri.casesB 10); (case h => rfl); (all_goals intro h1))
  · have g1 := of_decide_eq_true h1
    ((iterate 6 apply Tri.opNo (c := true); (iterate 6 rfl)); (iterate 5 apply Tri.opNoU; (iterate 4 rfl)); apply Tri.opNo (c := true); (iterate 6 rfl); apply Tri.op; rfl; apply o_pickT; (iterate 4 rfl); apply Tri.op; rfl; apply o_assign; rfl; rfl; refine Tri.nil (Tri.thenN (Tri.ret ?_)))
    (apply Tri.fin; (case hr => rfl); (case h => exact ResL.cons (Res1.tmp rfl) (ResL.nil)); (apply fin_R (Hn := [])); (case p => exact (by (repeat first | with_reducible constructor | constructor))); exact ⟨by simp only [tupled]; (rw [lessK, decide_eq_true g1, Bool.true_or]), rfl⟩)
  · have g1 := of_decide_eq_false h1
    (apply Tri.opYes; rfl; rfl; rfl; apply o_fieldAddr; rfl; rfl; apply Tri.opYes; rfl; rfl; rfl; apply o_load; rfl; (with_reducible repeat constructor); rfl; rfl; apply Tri.opYes; rfl; rfl; rfl; apply o_fieldAddr; rfl; rfl; apply Tri.opYes; rfl; rfl; rfl; apply o_load; rfl; (with_reducible repeat constructor); rfl; rfl; apply Tri.opYes; rfl; rfl; rfl; apply o_eql; rfl; rfl; rfl; apply Tri.opYes; rfl; rfl; rfl; apply o_move; rfl; rfl)
    ((with_reducible apply Tri.casesB 16); (case h => rfl); (all_goals intro h2))
    · have g2 := of_decide_eq_true h2
      (apply Tri.opYes; rfl; rfl; rfl; apply o_fieldAddr; rfl; rfl; apply Tri.opYes; rfl; rfl; rfl; apply o_load; rfl; (with_reducible repeat constructor); rfl; rfl; apply Tri.opYes; rfl; rfl; rfl; apply o_fieldAddr; rfl; rfl; apply Tri.opYes; rfl; rfl; rfl; apply o_load; rfl; (with_reducible repeat constructor); rfl; rfl; apply Tri.opYes; rfl; rfl; rfl; apply o_lss; rfl; rfl; rfl; apply Tri.opYes; rfl; rfl; rfl; apply o_pickT; (iterate 4 rfl); apply Tri.op; rfl; apply o_pickF; (iterate 4 rfl); apply Tri.op; rfl; apply o_assign; rfl; rfl; refine Tri.nil (Tri.thenN (Tri.ret ?_)))
      (apply Tri.fin; (case hr => rfl); (case h => exact ResL.cons (Res1.tmp rfl) (ResL.nil)); (apply fin_R (Hn := [])); (case p => exact (by (repeat first | with_reducible constructor | constructor))); exact ⟨by simp only [tupled]; (rw [lessK, decide_eq_false g1, decide_eq_true g2, Bool.false_or, Bool.true_and]), rfl⟩)
    · have g2 := of_decide_eq_false h2
      ((iterate 5 apply Tri.opNo (c := false); (iterate 6 rfl)); apply Tri.opYes; rfl; rfl; rfl; apply o_pickF; (iterate 4 rfl); apply Tri.op; rfl; apply o_pickF; (iterate 4 rfl); apply Tri.op; rfl; apply o_assign; rfl; rfl; refine Tri.nil (Tri.thenN (Tri.ret ?_)))
      (apply Tri.fin; (case hr => rfl); (case h => exact ResL.cons (Res1.tmp rfl) (ResL.nil)); (apply fin_R (Hn := [])); (case p => exact (by (repeat first | with_reducible constructor | constructor))); exact ⟨by simp only [tupled]; (rw [lessK, decide_eq_false g1, decide_eq_false g2]; rfl), rfl⟩)

set_option maxHeartbeats 1000000 in
theorem slices_Index (v : Value) (l : List Int) (n : Int) : SpecR Try.prog 144 #[v, .int .i64 n] (fun w => RdW w v l.length (NL l)) (fun r H' => ∃ k : Int, r = .int .i64 k ∧ (0 ≤ k ↔ n ∈ l) ∧ H' = []) := by
  refine SpecR.of (fun w hr => ?_)
  have hlen := hr.le
  refine Calls.enter Try.func144 rfl rfl rfl (St.rebase w) ?_
  simp only [argSlots]
  (refine Tri.seq (Tri.region ?_); apply Tri.op; rfl; apply o_assign; rfl; rfl; refine Tri.nil (Tri.thenN (Tri.seq (Tri.seq (Tri.region ?_)))); apply Tri.op; rfl; apply o_move; rfl; rfl; apply Tri.op; rfl)
  (apply o_lenRd (hr := hr); (case hx => rfl); (case hn => rfl))
  (apply Tri.op; rfl; apply o_move; rfl; rfl; refine Tri.nil (Tri.thenN (Tri.block ?_)))
  (apply Tri.loop (α := { i : Nat // i ≤ l.length ∧ n ∉ l.take i }) (m := fun x => l.length - x.1) (Lx := fun x => [(0, v), (1, .int .i64 n), (7, .int .i64 (l.length : Int)), (8, .int .i64 (x.1 : Int))]) (Hx := fun x => [Ex (hp w)]) (x0 := ⟨0, Nat.zero_le _, by simp⟩); (case hL => ((try dsimp only); (repeat (first | exact trivial | refine And.intro (by rfl) ?_)))); (case hH => ((try dsimp only); apply St.all; (repeat first | with_reducible constructor | constructor)))); (rintro ⟨i, hi, hno⟩ mx hmx; (try dsimp only at hmx ⊢))
  (refine Tri.seq (Tri.region ?_); apply Tri.op; rfl; apply o_lss; rfl; rfl; rfl; refine Tri.nil (Tri.thenN (Tri.seq ?_)))
  (apply Tri.condD; (case hc => rfl); (all_goals intro h))
  · have hil : i < l.length := by omega
    have hgd : l.getD i 0 = l[i] := by rw [List.getD_eq_getElem?_getD, List.getElem?_eq_getElem hil]; rfl
    (refine Tri.skip (Tri.thenN (Tri.seq (Tri.block (Tri.seq (Tri.region ?_))))); apply Tri.op; rfl; apply o_move; rfl; rfl; apply Tri.op; rfl; apply o_assign; rfl; rfl; refine Tri.nil (Tri.thenN (Tri.seq (Tri.region ?_))); apply Tri.op; rfl; apply o_move; rfl; rfl; apply Tri.op; rfl; apply o_move; rfl; rfl; apply Tri.op; rfl; apply o_move; rfl; rfl; apply Tri.op; rfl)
    (apply o_ixRd (hr := hr) (j := i); (case hx => rfl); (case hy => rfl); (case hj => rfl); (case hlt => exact hil); (case hl => (rw [NL_length]; omega)); (case hn => rfl))
    (apply Tri.op; rfl)
    (apply o_loadRd (hr := hr); (case hx => rfl); (case p => (with_reducible repeat constructor)); (case hv => exact (by rw [Nat.mul_one]; exact NL_get l i hil)); (case hn => rfl))
    (apply Tri.op; rfl; apply o_eql; rfl; rfl; rfl; refine Tri.nil (Tri.thenN ?_))
    (apply Tri.condD; (case hc => rfl); (all_goals intro hq))
    · (refine Tri.seq (Tri.region ?_); apply Tri.op; rfl; apply o_move; rfl; rfl; apply Tri.op; rfl; apply o_assign; rfl; rfl; refine Tri.nil (Tri.thenN (Tri.ret (Tri.blockR (Tri.thenR (Tri.thenR (Tri.blockR (Tri.thenR ?_))))))))
      (apply Tri.fin; (case hr => rfl); (case h => exact ResL.cons (Res1.tmp rfl) (ResL.nil)); (apply fin_R (Hn := [])); (case p => exact (by (repeat first | with_reducible constructor | constructor))); exact ⟨(i : Int), rfl, ⟨fun _ => by rw [hq, hgd]; exact List.getElem_mem hil, fun _ => by omega⟩, rfl⟩)
    · have hno2 : n ∉ l.take (i + 1) := fun hm => by
        rw [List.take_succ_eq_append_getElem hil] at hm
        rcases List.mem_append.1 hm with hm | hm
        · exact hno hm
        · simp at hm; exact hq (by rw [hgd]; exact hm)
      (refine Tri.skip (Tri.blockN (Tri.thenN (Tri.region ?_))); apply Tri.op; rfl; apply o_add64; rfl; rfl; rfl; (omega); apply Tri.op; rfl; apply o_move; rfl; rfl; refine Tri.nil (Tri.thenN ?_))
      (apply Tri.again (y := ⟨i + 1, by omega, hno2⟩); (case p => ((try dsimp only); (repeat (first | exact Pulls.nil | (apply Pulls.cons; (case a => (first | ((repeat (first | with_reducible exact Gv.Pull.head | with_reducible apply Gv.Pull.tail)); done) | (repeat (first | exact Gv.Pull.head | apply Gv.Pull.tail))))))))); (case hm => ((try dsimp only); omega)); (try dsimp only))
      (repeat (first | exact trivial | refine And.intro (by rfl) ?_))
  · obtain rfl : i = l.length := by omega
    rw [List.take_length] at hno
    ((with_reducible refine Tri.exit (Tri.thenE (Tri.thenE (Tri.blockE (Tri.thenN (Tri.seq (Tri.region ?_))))))); apply Tri.op; rfl; apply o_assign; rfl; rfl; refine Tri.nil (Tri.thenN (Tri.ret ?_)))
    (apply Tri.fin; (case hr => rfl); (case h => exact ResL.cons (Res1.tmp rfl) (ResL.nil)); (apply fin_R (Hn := [])); (case p => exact (by (repeat first | with_reducible constructor | constructor))); exact ⟨-1, rfl, ⟨fun h => absurd h (by omega), fun h => absurd h hno⟩, rfl⟩)

set_option maxHeartbeats 1000000 in
theorem slices_Contains (v : Value) (l : List Int) (n : Int) : SpecR Try.prog 129 #[v, .int .i64 n] (fun w => RdW w v l.length (NL l)) (fun r H' => r = .bool (decide (n ∈ l)) ∧ H' = []) := by
  refine SpecR.of (fun w hr => ?_)
  refine Calls.enter Try.func129 rfl rfl rfl (St.rebase w) ?_
  simp only [argSlots]
  (refine Tri.seq (Tri.region ?_); apply Tri.op; rfl; apply o_assign; rfl; rfl; refine Tri.nil (Tri.thenN (Tri.seq (Tri.region ?_))); apply Tri.op; rfl; apply o_move; rfl; rfl; apply Tri.op; rfl; apply o_move; rfl; rfl; apply Tri.op; rfl)
  (apply o_callR (hs := slices_Index v l n); (case hargs => (repeat first | exact evs.nil | (apply evs.cons; case a => rfl))); (case hpre => exact rdw_ex (by (with_reducible repeat constructor)) hr); (case hn => rfl))
  rintro r1 H1 ⟨k, rfl, hk, rfl⟩
  (try dsimp only [List.cons_append, List.nil_append])
  (apply Tri.op; rfl; apply o_geq; rfl; rfl; rfl; apply Tri.op; rfl; apply o_assign; rfl; rfl; refine Tri.nil (Tri.thenN (Tri.ret ?_)))
  (apply Tri.fin; (case hr => rfl); (case h => exact ResL.cons (Res1.tmp rfl) (ResL.nil)); (apply fin_R (Hn := [])); (case p => exact (by (repeat first | with_reducible constructor | constructor))); exact ⟨by simp only [tupled]; (congr 1; exact decide_eq_decide.2 hk), rfl⟩)

theorem keyAt_lt {ks : List KEY} {i n : Nat} (h : keyAt ks i = false) (hi : i < n) : keysTo ks n = false := keysTo_mono ks (i := i + 1) (by rw [keysTo, h, Bool.and_false]) n (by omega)
theorem kidAt_lt {ks : List Int} {i n : Nat} (h : kidAt ks i = false) (hi : i < n) : kidsTo ks n = false := kidsTo_mono ks (i := i + 1) (by rw [kidsTo, h, Bool.and_false]) n (by omega)
theorem inner_nok {ks : List KEY} {kids : List Int} (h : keysTo ks ks.length = false) : innerB ks kids = false := by rw [innerB, h]; rfl
theorem inner_nod {ks : List KEY} {kids : List Int} (h : kidsTo kids kids.length = false) : innerB ks kids = false := by rw [innerB, h, Bool.and_false]; rfl
set_option maxHeartbeats 4000000 in
theorem node_inner (kv dv : Value) (ks : List KEY) (kids : List Int) : SpecR Try.prog 107 #[kv, dv] (fun w => RdW w kv ks.length (KL ks) ∧ RdW w dv kids.length (NL kids)) (fun r H' => r = .bool (innerB ks kids) ∧ H' = []) := by
  refine SpecR.of (fun w hrr => ?_)
  obtain ⟨hr1, hr2⟩ := hrr
  have hlen1 := hr1.le
  have hlen2 := hr2.le
  refine Calls.enter Try.func107 rfl rfl rfl (St.rebase w) ?_
  simp only [argSlots]
  (refine Tri.seq (Tri.region ?_); apply Tri.op; rfl; apply o_assign; rfl; rfl; refine Tri.nil (Tri.thenN (Tri.seq (Tri.seq (Tri.region ?_)))); apply Tri.op; rfl; apply o_move; rfl; rfl; apply Tri.op; rfl)
  (apply o_lenRd (hr := hr1); (case hx => rfl); (case hn => rfl))
  (apply Tri.op; rfl; apply o_move; rfl; rfl; refine Tri.nil (Tri.thenN (Tri.block ?_)))
  (apply Tri.loop (α := { i : Nat // i ≤ ks.length ∧ keysTo ks i = true }) (m := fun x => ks.length - x.1) (Lx := fun x => [(0, kv), (1, dv), (9, kv), (10, .int .i64 (ks.length : Int)), (11, .int .i64 (x.1 : Int))]) (Hx := fun x => [Ex (hp w)]) (x0 := ⟨0, Nat.zero_le _, rfl⟩); (case hL => ((try dsimp only); (repeat (first | exact trivial | refine And.intro (by rfl) ?_)))); (case hH => ((try dsimp only); apply St.all; (repeat first | with_reducible constructor | constructor)))); (rintro ⟨i, hi, hks⟩ mx hmx; (try dsimp only at hmx ⊢))
  (refine Tri.seq (Tri.region ?_); apply Tri.op; rfl; apply o_lss; rfl; rfl; rfl; refine Tri.nil (Tri.thenN (Tri.seq ?_)))
  (apply Tri.condD; (case hc => rfl); (all_goals intro h))
  · have hil : i < ks.length := by omega
    (refine Tri.skip (Tri.thenN (Tri.seq (Tri.block (Tri.seq (Tri.region ?_))))); apply Tri.op; rfl; apply o_move; rfl; rfl; apply Tri.op; rfl)
    (apply o_ixRd (hr := hr1) (j := i); (case hx => rfl); (case hy => rfl); (case hj => rfl); (case hlt => exact hil); (case hl => (rw [KL_length]; omega)); (case hn => rfl))
    (apply Tri.op; rfl)
    (apply o_loadAggRd (hr := hr1); (case hx => rfl); (case p => (with_reducible repeat constructor)); (case hv => exact KL_two ks i hil); (case hl => rfl); (case hn => rfl))
    (apply Tri.op; rfl)
    (apply o_alloc; (case hn => rfl); intro b6)
    (apply Tri.op; rfl; apply o_assign; rfl; rfl; apply Tri.op; rfl)
    (apply o_storeAll (ys := keyL (ks.getD i (0, 0))); (case hx => rfl); (case hy => rfl); (case p => (with_reducible repeat constructor)); (case hl => rfl); (case hc => rfl); (case h1 => exact keyL_one _))
    (refine Tri.nil (Tri.thenN (Tri.seq ?_)))
    (apply Tri.quiet; (case hB => kernel_rfl))
    ((first | (apply TriQ.op; (case hg => rfl)) | (apply TriQ.opYes; (case hg => rfl); (case hy => rfl); (case hb => with_reducible rfl))); (case hd => rfl); (case hn => rfl); (case h => (intro K hK; (apply o_loadAll; (case hx => rfl); (case p => (with_reducible repeat constructor)); (case hl => rfl); (case hn => rfl)); exact hK)))
    ((first | (apply TriQ.op; (case hg => rfl)) | (apply TriQ.opYes; (case hg => rfl); (case hy => rfl); (case hb => with_reducible rfl))); (case hd => rfl); (case hn => rfl); (case h => (intro K hK; apply o_callV (hs := node_rightKey (ks.getD i (0, 0))); (case hargs => (repeat first | exact evs.nil | (apply evs.cons; case a => rfl))); (case hpre => exact fun _ _ => trivial); (case hn => rfl); exact hK)))
    ((first | (apply TriQ.op; rfl) | (apply TriQ.opYes; rfl; rfl; with_reducible rfl)); rfl; rfl; (intro K hK; apply o_not; rfl; rfl; exact hK); (first | (apply TriQ.op; rfl) | (apply TriQ.opYes; rfl; rfl; with_reducible rfl)); rfl; rfl; (intro K hK; apply o_move; rfl; rfl; exact hK))
    ((with_reducible apply TriQ.casesB 19); (case h => rfl); (all_goals intro g1))
    · have g1' : keyOk (ks.getD i (0, 0)) = false := by simpa using g1
      ((iterate 3 apply TriQ.opNo (c := true); (iterate 6 rfl)); (iterate 8 apply TriQ.opNoU; (iterate 4 rfl)); apply TriQ.opNo (c := true); (iterate 6 rfl); (first | (apply TriQ.op; rfl) | (apply TriQ.opYes; rfl; rfl; with_reducible rfl)); rfl; rfl; (intro K hK; apply o_pickT; (iterate 4 rfl); exact hK); refine TriQ.nil ?_)
      (refine Tri.thenN ?_; apply Tri.condT; rfl; rfl; refine Tri.seq (Tri.region ?_); apply Tri.op; rfl; apply o_assign; rfl; rfl; refine Tri.nil (Tri.thenN (Tri.ret (Tri.blockR (Tri.thenR (Tri.thenR (Tri.blockR (Tri.thenR ?_))))))))
      (apply Tri.fin; (case hr => rfl); (case h => exact ResL.cons (Res1.tmp rfl) (ResL.nil)); (apply fin_R (Hn := [])); (case p => exact (by (repeat first | with_reducible constructor | constructor))); exact ⟨by simp only [tupled]; (rw [inner_nok (keyAt_lt (by rw [keyAt, g1']; rfl) hil)]), rfl⟩)
    · have g1' : keyOk (ks.getD i (0, 0)) = true := by simpa using g1
      ((first | (apply TriQ.op; rfl) | (apply TriQ.opYes; rfl; rfl; with_reducible rfl)); rfl; rfl; (intro K hK; apply o_move; rfl; rfl; exact hK); (first | (apply TriQ.op; rfl) | (apply TriQ.opYes; rfl; rfl; with_reducible rfl)); rfl; rfl; (intro K hK; apply o_gtr; rfl; rfl; rfl; exact hK); (first | (apply TriQ.op; rfl) | (apply TriQ.opYes; rfl; rfl; with_reducible rfl)); rfl; rfl; (intro K hK; apply o_move; rfl; rfl; exact hK))
      ((with_reducible apply TriQ.casesB 22); (case h => rfl); (all_goals intro g2))
      · have g2' := of_decide_eq_true g2
        ((iterate 2 (first | (apply TriQ.op; rfl) | (apply TriQ.opYes; rfl; rfl; with_reducible rfl)); rfl; rfl; (intro K hK; apply o_move; rfl; rfl; exact hK)); (first | (apply TriQ.op; rfl) | (apply TriQ.opYes; rfl; rfl; with_reducible rfl)); rfl; rfl; (intro K hK; apply o_sub64; rfl; rfl; rfl; (omega); exact hK))
        ((first | (apply TriQ.op; (case hg => rfl)) | (apply TriQ.opYes; (case hg => rfl); (case hy => rfl); (case hb => with_reducible rfl))); (case hd => rfl); (case hn => rfl); (case h => (intro K hK; (apply o_ixRd (hr := hr1) (j := i - 1); (case hx => rfl); (case hy => rfl); (case hj => omega); (case hlt => omega); (case hl => (rw [KL_length]; omega)); (case hn => rfl)); exact hK)))
        ((first | (apply TriQ.op; (case hg => rfl)) | (apply TriQ.opYes; (case hg => rfl); (case hy => rfl); (case hb => with_reducible rfl))); (case hd => rfl); (case hn => rfl); (case h => (intro K hK; (apply o_loadAggRd (hr := hr1); (case hx => rfl); (case p => (with_reducible repeat constructor)); (case hv => exact KL_two ks (i - 1) (by omega)); (case hl => rfl); (case hn => rfl)); exact hK)))
        ((first | (apply TriQ.op; (case hg => rfl)) | (apply TriQ.opYes; (case hg => rfl); (case hy => rfl); (case hb => with_reducible rfl))); (case hd => rfl); (case hn => rfl); (case h => (intro K hK; (apply o_loadAll; (case hx => rfl); (case p => (with_reducible repeat constructor)); (case hl => rfl); (case hn => rfl)); exact hK)))
        ((first | (apply TriQ.op; (case hg => rfl)) | (apply TriQ.opYes; (case hg => rfl); (case hy => rfl); (case hb => with_reducible rfl))); (case hd => rfl); (case hn => rfl); (case h => (intro K hK; apply o_callV (hs := node_Less (ks.getD (i - 1) (0, 0)) (ks.getD i (0, 0))); (case hargs => (repeat first | exact evs.nil | (apply evs.cons; case a => rfl))); (case hpre => exact fun _ _ => trivial); (case hn => rfl); exact hK)))
        ((first | (apply TriQ.op; rfl) | (apply TriQ.opYes; rfl; rfl; with_reducible rfl)); rfl; rfl; (intro K hK; apply o_not; rfl; rfl; exact hK); (first | (apply TriQ.op; rfl) | (apply TriQ.opYes; rfl; rfl; with_reducible rfl)); rfl; rfl; (intro K hK; apply o_pickT; (iterate 4 rfl); exact hK); (first | (apply TriQ.op; rfl) | (apply TriQ.opYes; rfl; rfl; with_reducible rfl)); rfl; rfl; (intro K hK; apply o_pickF; (iterate 4 rfl); exact hK); refine TriQ.nil ?_)
        (refine Tri.thenN ?_)
        (apply Tri.cond; (case hc => rfl); (all_goals intro g3))
        · have g3' : lessK (ks.getD (i - 1) (0, 0)) (ks.getD i (0, 0)) = false := by simpa using g3
          (refine Tri.seq (Tri.region ?_); apply Tri.op; rfl; apply o_assign; rfl; rfl; refine Tri.nil (Tri.thenN (Tri.ret (Tri.blockR (Tri.thenR (Tri.thenR (Tri.blockR (Tri.thenR ?_))))))))
          (apply Tri.fin; (case hr => rfl); (case h => exact ResL.cons (Res1.tmp rfl) (ResL.nil)); (apply fin_R (Hn := [])); (case p => exact (by (repeat first | with_reducible constructor | constructor))); exact ⟨by simp only [tupled]; (rw [inner_nok (keyAt_lt (by rw [keyAt, g3', decide_eq_false (by omega)]; simp) hil)]), rfl⟩)
        · have g3' : lessK (ks.getD (i - 1) (0, 0)) (ks.getD i (0, 0)) = true := by simpa using g3
          (refine Tri.skip (Tri.blockN (Tri.thenN (Tri.region ?_))); apply Tri.op; rfl; apply o_add64; rfl; rfl; rfl; (omega); apply Tri.op; rfl; apply o_move; rfl; rfl; refine Tri.nil (Tri.thenN ?_))
          ((with_reducible apply Tri.again (y := ⟨i + 1, by omega, by rw [keysTo, hks, keyAt, g1', g3']; simp⟩)); (case p => ((try dsimp only); (repeat (first | exact Pulls.nil | (apply Pulls.cons; (case a => (first | ((repeat (first | with_reducible exact Gv.Pull.head | with_reducible apply Gv.Pull.tail)); done) | (repeat (first | exact Gv.Pull.head | apply Gv.Pull.tail))))))))); (case hm => ((try dsimp only); omega)); (try dsimp only))
          (repeat (first | exact trivial | refine And.intro (by rfl) ?_))
      · have g2' := of_decide_eq_false g2
        ((iterate 8 apply TriQ.opNo (c := false); (iterate 6 rfl)); (iterate 2 (first | (apply TriQ.op; rfl) | (apply TriQ.opYes; rfl; rfl; with_reducible rfl)); rfl; rfl; (intro K hK; apply o_pickF; (iterate 4 rfl); exact hK)); refine TriQ.nil ?_)
        (refine Tri.thenN ?_; apply Tri.condF; rfl; rfl; refine Tri.skip (Tri.blockN (Tri.thenN (Tri.region ?_))); apply Tri.op; rfl; apply o_add64; rfl; rfl; rfl; (omega); apply Tri.op; rfl; apply o_move; rfl; rfl; refine Tri.nil (Tri.thenN ?_))
        ((with_reducible apply Tri.again (y := ⟨i + 1, by omega, by rw [keysTo, hks, keyAt, g1', decide_eq_true (show i = 0 by omega)]; simp⟩)); (case p => ((try dsimp only); (repeat (first | exact Pulls.nil | (apply Pulls.cons; (case a => (first | ((repeat (first | with_reducible exact Gv.Pull.head | with_reducible apply Gv.Pull.tail)); done) | (repeat (first | exact Gv.Pull.head | apply Gv.Pull.tail))))))))); (case hm => ((try dsimp only); omega)); (try dsimp only))
        (repeat (first | exact trivial | refine And.intro (by rfl) ?_))
  · obtain rfl : i = ks.length := by omega
    ((with_reducible refine Tri.exit (Tri.thenE (Tri.thenE (Tri.blockE (Tri.thenN (Tri.seq (Tri.seq (Tri.region ?_)))))))); apply Tri.op; rfl; apply o_move; rfl; rfl; apply Tri.op; rfl)
    (apply o_lenRd (hr := hr2); (case hx => rfl); (case hn => rfl))
    (apply Tri.op; rfl; apply o_move; rfl; rfl; refine Tri.nil (Tri.thenN (Tri.block ?_)))
    (apply Tri.loop (α := { i : Nat // i ≤ kids.length ∧ kidsTo kids i = true }) (m := fun x => kids.length - x.1) (Lx := fun x => [(0, kv), (1, dv), (34, dv), (35, .int .i64 (kids.length : Int)), (36, .int .i64 (x.1 : Int))]) (Hx := fun x => [Ex (hp w)]) (x0 := ⟨0, Nat.zero_le _, rfl⟩); (case hL => ((try dsimp only); (repeat (first | exact trivial | refine And.intro (by rfl) ?_)))); (case hH => ((try dsimp only); apply St.all; (repeat first | with_reducible constructor | constructor)))); (rintro ⟨i, hi, hds⟩ mx hmx; (try dsimp only at hmx ⊢))
    (refine Tri.seq (Tri.region ?_); apply Tri.op; rfl; apply o_lss; rfl; rfl; rfl; refine Tri.nil (Tri.thenN (Tri.seq ?_)))
    (apply Tri.condD; (case hc => rfl); (all_goals intro h2))
    · have hil : i < kids.length := by omega
      (refine Tri.skip (Tri.thenN (Tri.seq (Tri.block (Tri.seq (Tri.region ?_))))); apply Tri.op; rfl; apply o_move; rfl; rfl; apply Tri.op; rfl)
      (apply o_ixRd (hr := hr2) (j := i); (case hx => rfl); (case hy => rfl); (case hj => rfl); (case hlt => exact hil); (case hl => (rw [NL_length]; omega)); (case hn => rfl))
      (apply Tri.op; rfl)
      (apply o_loadRd (hr := hr2); (case hx => rfl); (case p => (with_reducible repeat constructor)); (case hv => exact (by rw [Nat.mul_one]; exact NL_get kids i hil)); (case hn => rfl))
      (apply Tri.op; rfl; apply o_assign; rfl; rfl; apply Tri.op; rfl; apply o_assign; rfl; rfl; refine Tri.nil (Tri.thenN (Tri.seq (Tri.region ?_))); apply Tri.op; rfl; apply o_move; rfl; rfl; apply Tri.op; rfl)
      (apply o_callV (hs := node_between (kids.getD i 0) 2 511); (case hargs => (repeat first | exact evs.nil | (apply evs.cons; case a => rfl))); (case hpre => exact fun _ _ => trivial); (case hn => rfl))
      (apply Tri.op; rfl; apply o_not; rfl; rfl; apply Tri.op; rfl; apply o_move; rfl; rfl)
      ((with_reducible apply Tri.casesB 44); (case h => rfl); (all_goals intro g1))
      · have g1' : betw (kids.getD i 0) 2 511 = false := by simpa using g1
        ((iterate 5 apply Tri.opNo (c := true); (iterate 6 rfl)); apply Tri.op; rfl; apply o_pickT; (iterate 4 rfl); refine Tri.nil (Tri.thenN ?_); apply Tri.condT; rfl; rfl; refine Tri.seq (Tri.region ?_); apply Tri.op; rfl; apply o_assign; rfl; rfl; refine Tri.nil (Tri.thenN (Tri.ret (Tri.blockR (Tri.thenR (Tri.thenR (Tri.blockR (Tri.thenR ?_))))))))
        (apply Tri.fin; (case hr => rfl); (case h => exact ResL.cons (Res1.tmp rfl) (ResL.nil)); (apply fin_R (Hn := [])); (case p => exact (by (repeat first | with_reducible constructor | constructor))); exact ⟨by simp only [tupled]; (rw [inner_nod (kidAt_lt (by rw [kidAt, g1']; rfl) hil)]), rfl⟩)
      · have g1' : betw (kids.getD i 0) 2 511 = true := by simpa using g1
        (apply Tri.opYes; rfl; rfl; rfl; apply o_move; rfl; rfl; apply Tri.opYes; rfl; rfl; rfl; apply o_move; rfl; rfl; apply Tri.opYes; rfl; rfl; rfl)
        (apply o_slice (lo := 0) (hi := i); (case hx => rfl); (case hr => exact rdw_ex (by (with_reducible repeat constructor)) hr2); (case hol => first | exact fun _ _ => rfl | exact fun a ha => congrArg some (ha.eval rfl)); (case hoh => first | exact fun _ _ => rfl | exact fun a ha => congrArg some (ha.eval rfl)); (case hlo => first | exact .inr ⟨rfl, rfl⟩ | exact .inl ⟨_, rfl⟩ | exact .inl ⟨_, (by congr 2; omega)⟩); (case hhi => first | exact .inr ⟨rfl, rfl⟩ | exact .inl ⟨_, rfl⟩ | exact .inl ⟨_, (by congr 2; omega)⟩); (case hlh => omega); (case hhm => omega); (case hn => rfl))
        (apply Tri.opYes; rfl; rfl; rfl; apply o_move; rfl; rfl; apply Tri.opYes; rfl; rfl; rfl)
        have hsub : ∀ w', RdW w' dv kids.length (NL kids) → RdW w' (subv dv 1 0 i) (kids.take i).length (NL (kids.take i)) := fun w' h => by
          have := h.subv (size := 1) (lo := 0) (hi := i) (by omega) (by omega)
          rw [NL_sub, Nat.sub_zero] at this
          rw [List.length_take, show min i kids.length = i by omega]; exact this
        (apply o_callV (hs := slices_Contains (subv dv 1 0 i) (kids.take i) (kids.getD i 0)); (case hargs => (repeat first | exact evs.nil | (apply evs.cons; case a => rfl))); (case hpre => exact fun w' hw' => hsub w' (rdw_ex (by (with_reducible repeat constructor)) hr2 w' hw')); (case hn => rfl))
        (apply Tri.op; rfl; apply o_pickF; (iterate 4 rfl); refine Tri.nil (Tri.thenN ?_))
        (apply Tri.cond; (case hc => rfl); (all_goals intro g2))
        · (refine Tri.seq (Tri.region ?_); apply Tri.op; rfl; apply o_assign; rfl; rfl; refine Tri.nil (Tri.thenN (Tri.ret (Tri.blockR (Tri.thenR (Tri.thenR (Tri.blockR (Tri.thenR ?_))))))))
          (apply Tri.fin; (case hr => rfl); (case h => exact ResL.cons (Res1.tmp rfl) (ResL.nil)); (apply fin_R (Hn := [])); (case p => exact (by (repeat first | with_reducible constructor | constructor))); exact ⟨by simp only [tupled]; (rw [inner_nod (kidAt_lt (by rw [kidAt, g2]; simp) hil)]), rfl⟩)
        · (refine Tri.skip (Tri.blockN (Tri.thenN (Tri.region ?_))); apply Tri.op; rfl; apply o_add64; rfl; rfl; rfl; (omega); apply Tri.op; rfl; apply o_move; rfl; rfl; refine Tri.nil (Tri.thenN ?_))
          ((with_reducible apply Tri.again (y := ⟨i + 1, by omega, by rw [kidsTo, hds, kidAt, g1', g2]; simp⟩)); (case p => ((try dsimp only); (repeat (first | exact Pulls.nil | (apply Pulls.cons; (case a => (first | ((repeat (first | with_reducible exact Gv.Pull.head | with_reducible apply Gv.Pull.tail)); done) | (repeat (first | exact Gv.Pull.head | apply Gv.Pull.tail))))))))); (case hm => ((try dsimp only); omega)); (try dsimp only))
          (repeat (first | exact trivial | refine And.intro (by rfl) ?_))
    · obtain rfl : i = kids.length := by omega
      ((with_reducible refine Tri.exit (Tri.thenE (Tri.thenE (Tri.blockE (Tri.thenN (Tri.seq (Tri.region ?_))))))); apply Tri.op; rfl; apply o_move; rfl; rfl; apply Tri.op; rfl)
      (apply o_lenRd (hr := hr1); (case hx => rfl); (case hn => rfl))
      (apply Tri.op; rfl; apply o_move; rfl; rfl; apply Tri.op; rfl)
      (apply o_lenRd (hr := hr2); (case hx => rfl); (case hn => rfl))
      (apply Tri.op; rfl; apply o_eql; rfl; rfl; rfl; apply Tri.op; rfl; apply o_move; rfl; rfl)
      ((with_reducible apply Tri.casesB 57); (case h => rfl); (all_goals intro g1))
      · have g1' := of_decide_eq_true g1
        (apply Tri.opYes; rfl; rfl; rfl; apply o_move; rfl; rfl; apply Tri.opYes; rfl; rfl; rfl)
        (apply o_lenRd (hr := hr2); (case hx => rfl); (case hn => rfl))
        (apply Tri.opYes; rfl; rfl; rfl)
        (apply o_callV (hs := node_between (kids.length : Int) 1 16); (case hargs => (repeat first | exact evs.nil | (apply evs.cons; case a => rfl))); (case hpre => exact fun _ _ => trivial); (case hn => rfl))
        (apply Tri.op; rfl; apply o_pickT; (iterate 4 rfl); apply Tri.op; rfl; apply o_assign; rfl; rfl; refine Tri.nil (Tri.thenN (Tri.ret ?_)))
        (apply Tri.fin; (case hr => rfl); (case h => exact ResL.cons (Res1.tmp rfl) (ResL.nil)); (apply fin_R (Hn := [])); (case p => exact (by (repeat first | with_reducible constructor | constructor))); exact ⟨by simp only [tupled]; (rw [innerB, hks, hds, decide_eq_true (show ks.length = kids.length by omega)]; rfl), rfl⟩)
      · have g1' := of_decide_eq_false g1
        ((iterate 3 apply Tri.opNo (c := false); (iterate 6 rfl)); apply Tri.op; rfl; apply o_pickF; (iterate 4 rfl); apply Tri.op; rfl; apply o_assign; rfl; rfl; refine Tri.nil (Tri.thenN (Tri.ret ?_)))
        (apply Tri.fin; (case hr => rfl); (case h => exact ResL.cons (Res1.tmp rfl) (ResL.nil)); (apply fin_R (Hn := [])); (case p => exact (by (repeat first | with_reducible constructor | constructor))); exact ⟨by simp only [tupled]; (rw [innerB, hks, hds, decide_eq_false (show ¬ ks.length = kids.length by omega)]; rfl), rfl⟩)
end Go.Proofs.Ytckdlfbbkemklaa
end
section
/- node: Put and Get, of inner nodes. -/
namespace Go.Proofs.Ytckdlfbbkemklaa
open Go Go.RowKit Go.Gv
set_option linter.unusedVariables false
set_option linter.unusedSimpArgs false

def ndL (ev kv dv : Value) : List Value := [.bool false, ev, kv, dv]
def ndV (ev kv dv : Value) : Value := .agg (ndL ev kv dv).toArray
set_option maxHeartbeats 1000000 in
theorem node_big (v : Value) (l : List UInt8) (n size : Nat) (hs : size ≤ 8) (hl : l.length ≤ 1000000) : Gv.Spec Try.prog 85 #[v, .int .u64 (n : Int), .int .i64 (size : Int)] [own 5 1 v l.length (B8 l)]
    (fun r H' => H' = [own 5 1 r (l ++ bigB n size).length (B8 (l ++ bigB n size))]) := by
  refine Gv.Spec.of (fun w h0 hw => ?_)
  refine Calls.enter Try.func85 rfl rfl rfl hw ?_
  simp only [argSlots]
  (try dsimp only [List.cons_append, List.nil_append])
  (refine Tri.seq (Tri.region ?_); apply Tri.op; rfl; apply o_assign; rfl; rfl; refine Tri.nil (Tri.thenN (Tri.seq (Tri.seq (Tri.region ?_)))); apply Tri.op; rfl; apply o_move; rfl; rfl; apply Tri.op; rfl; apply o_sub64; rfl; rfl; rfl; (omega); apply Tri.op; rfl; apply o_assign; rfl; rfl; refine Tri.nil (Tri.thenN (Tri.block ?_)))
  (apply Tri.loop (α := Σ' (k : Nat) (c : List UInt8) (u : Value), k ≤ size ∧ c ++ bigB n k = l ++ bigB n size) (m := fun x => x.1) (Lx := fun x => [(0, x.2.2.1), (1, .int .u64 (n : Int)), (7, .int .i64 ((x.1 : Int) - 1))]) (Hx := fun x => [own 5 1 x.2.2.1 x.2.1.length (B8 x.2.1), Ex h0]) (x0 := ⟨size, l, v, Nat.le_refl _, rfl⟩); (case hL => ((try dsimp only); (repeat (first | exact trivial | refine And.intro (by rfl) ?_)))); (case hH => ((try dsimp only); apply St.all; (repeat first | with_reducible constructor | constructor)))); (rintro ⟨k, c, u, hk, hc⟩ mx hmx; (try dsimp only at hmx ⊢))
  have hcl : c.length + k = l.length + size := by
    have := congrArg List.length hc
    simpa [bigB_length] using this
  (refine Tri.seq (Tri.seq (Tri.region ?_)); apply Tri.op; rfl; apply o_move; rfl; rfl; apply Tri.op; rfl; apply o_geq; rfl; rfl; rfl; refine Tri.nil (Tri.thenN ?_))
  (apply Tri.condD; (case hc => rfl); (all_goals intro h))
  · obtain ⟨j, rfl⟩ : ∃ j, k = j + 1 := ⟨k - 1, by omega⟩
    (refine Tri.skip (Tri.thenN (Tri.seq (Tri.block (Tri.region ?_)))); apply Tri.op; rfl; apply o_move; rfl; rfl; apply Tri.op; rfl; apply o_move; rfl; rfl; apply Tri.op; rfl; apply o_move; rfl; rfl; apply Tri.op; rfl; apply o_mul64; rfl; rfl; rfl; (omega); apply Tri.op; rfl; apply o_shr; rfl; rfl; rfl; (omega); apply Tri.op; rfl; apply o_conv8; rfl; rfl; apply Tri.op; rfl)
    ((with_reducible apply Tri.seti 19 (((UInt8.ofNat (n / 2 ^ (8 * j))).toNat : Int))); (case h => rfl); (case hi => (rw [show ((j + 1 : Nat) : Int) - 1 = (j : Int) by omega]; exact byte_shr n j (by omega))))
    (apply o_litSl (ys := [.int .u8 ((UInt8.ofNat (n / 2 ^ (8 * j))).toNat : Int)]); (case hp => (repeat first | exact pev.nil | (apply pev.cons; case a => rfl))); (case hm => rfl); (case hf => rfl); (case hn => rfl); intro vl)
    (apply Tri.op; rfl)
    (apply o_append; (case hx => rfl); (case hy => rfl); (case p => (with_reducible repeat constructor)); (case hr => exact rdw_own (by (with_reducible repeat constructor))); (case hl => rfl); (case h1 => (intro y hy; simp at hy; subst hy; rfl)); (case hb => omega); (case hn => rfl))
    intro u'
    (apply Tri.op; rfl; apply o_assign; rfl; rfl; refine Tri.nil (Tri.blockN (Tri.thenN (Tri.region ?_))); apply Tri.op; rfl; apply o_move; rfl; rfl; apply Tri.op; rfl; apply o_sub64; rfl; rfl; rfl; (omega); apply Tri.op; rfl; apply o_assign; rfl; rfl; refine Tri.nil (Tri.thenN ?_))
    ((with_reducible apply Tri.eqA (A := own 5 1 u' _ _) (B := own 5 1 u' (c ++ [UInt8.ofNat (n / 2 ^ (8 * j))]).length (B8 (c ++ [UInt8.ofNat (n / 2 ^ (8 * j))])))); (case p => (with_reducible repeat constructor)); (case e => (rw [B8_append, List.length_append]; rfl)))
    ((with_reducible apply Tri.seti 7 (((j : Int) - 1))); (case h => rfl); (case hi => omega))
    ((with_reducible apply Tri.again (y := ⟨j, c ++ [UInt8.ofNat (n / 2 ^ (8 * j))], u', by omega, by rw [← hc, bigB]; simp⟩)); (case p => ((try dsimp only); (repeat (first | exact Pulls.nil | (apply Pulls.cons; (case a => (first | ((repeat (first | with_reducible exact Gv.Pull.head | with_reducible apply Gv.Pull.tail)); done) | (repeat (first | exact Gv.Pull.head | apply Gv.Pull.tail))))))))); (case hm => ((try dsimp only); omega)); (try dsimp only))
    (repeat (first | exact trivial | refine And.intro (by rfl) ?_))
  · obtain rfl : k = 0 := by omega
    have hce : c = l ++ bigB n size := by rw [← hc]; simp [bigB]
    ((with_reducible refine Tri.exit (Tri.thenE (Tri.thenE (Tri.blockE (Tri.thenN (Tri.seq (Tri.region ?_))))))); apply Tri.op; rfl; apply o_move; rfl; rfl; apply Tri.op; rfl; apply o_assign; rfl; rfl; refine Tri.nil (Tri.thenN (Tri.ret ?_)))
    ((with_reducible apply Tri.eqA (A := own 5 1 u _ _) (B := own 5 1 u (l ++ bigB n size).length (B8 (l ++ bigB n size)))); (case p => (with_reducible repeat constructor)); (case e => (rw [hce])))
    (apply Tri.fin; (case hr => rfl); (case h => (repeat (first | exact ResL.nil | (apply ResL.cons; (case a => (first | exact Res1.tmp rfl | (apply Res1.cell; rfl; (with_reducible repeat constructor); rfl) | (apply Res1.agg; rfl; (with_reducible repeat constructor); rfl; rfl))))))); (apply fin_R (Hn := [own 5 1 u (l ++ bigB n size).length (B8 (l ++ bigB n size))])); (case p => (repeat first | with_reducible constructor | constructor)))
    rfl


set_option maxHeartbeats 1000000 in
theorem node_Right_inner (ev kv dv : Value) (ks : List KEY) (kids : List Int) : SpecR Try.prog 74 #[ndV ev kv dv] (fun w => RdW w ev 0 [] ∧ RdW w kv ks.length (KL ks) ∧ RdW w dv kids.length (NL kids)) (fun r H' => r = .bool (innerB ks kids) ∧ H' = []) := by
  refine SpecR.of (fun w hrr => ?_)
  obtain ⟨hr0, hr1, hr2⟩ := hrr
  refine Calls.enter Try.func74 rfl rfl rfl (St.rebase w) ?_
  simp only [argSlots]
  (refine Tri.seq (Tri.region ?_); apply Tri.op; rfl)
  (first | (apply o_boxA; (case hx => rfl); (case hn => rfl); intro b1) | (apply o_box1; (case hx => rfl); (case h1 => rfl); (case hn => rfl); intro b1))
  (apply Tri.op; rfl; apply o_assign; rfl; rfl; refine Tri.nil (Tri.thenN (Tri.seq (Tri.seq (Tri.region ?_)))); apply Tri.op; rfl; apply o_fieldAddr; rfl; rfl; apply Tri.op; rfl; apply o_load; rfl; (with_reducible repeat constructor); rfl; rfl; refine Tri.nil (Tri.thenN ?_); apply Tri.condF; rfl; rfl; refine Tri.skip (Tri.thenN (Tri.seq (Tri.region ?_))); apply Tri.op; rfl; apply o_fieldAddr; rfl; rfl; apply Tri.op; rfl; apply o_load; rfl; (with_reducible repeat constructor); rfl; rfl; apply Tri.op; rfl)
  (apply o_lenRd (hr := hr0); (case hx => rfl); (case hn => rfl))
  (apply Tri.op; rfl; apply o_eql; rfl; rfl; rfl; apply Tri.op; rfl; apply o_move; rfl; rfl)
  ((with_reducible apply Tri.setb 24 (true)); (case h => rfl); (case hi => rfl))
  (apply Tri.opYes; rfl; rfl; rfl; apply o_fieldAddr; rfl; rfl; apply Tri.opYes; rfl; rfl; rfl; apply o_load; rfl; (with_reducible repeat constructor); rfl; rfl; apply Tri.opYes; rfl; rfl; rfl; apply o_fieldAddr; rfl; rfl; apply Tri.opYes; rfl; rfl; rfl; apply o_load; rfl; (with_reducible repeat constructor); rfl; rfl; apply Tri.opYes; rfl; rfl; rfl)
  (apply o_callV (hs := node_inner kv dv ks kids); (case hargs => (repeat first | exact evs.nil | (apply evs.cons; case a => rfl))); (case hpre => exact fun w' hw' => ⟨rdw_ex (by (with_reducible repeat constructor)) hr1 w' hw', rdw_ex (by (with_reducible repeat constructor)) hr2 w' hw'⟩); (case hn => rfl))
  (apply Tri.op; rfl; apply o_pickT; (iterate 4 rfl); apply Tri.op; rfl; apply o_assign; rfl; rfl; refine Tri.nil (Tri.thenN (Tri.ret ?_)))
  (apply Tri.fin; (case hr => rfl); (case h => exact ResL.cons (Res1.tmp rfl) (ResL.nil)); (apply fin_R (Hn := [])); (case p => exact (by (repeat first | with_reducible constructor | constructor))); exact ⟨by simp only [tupled]; done, rfl⟩)
set_option maxHeartbeats 1000000 in
theorem node_Size_inner (ev kv dv : Value) (kids : List Int) : SpecR Try.prog 13 #[ndV ev kv dv] (fun w => RdW w dv kids.length (NL kids)) (fun r H' => r = .int .i64 (kids.length : Int) ∧ H' = []) := by
  refine SpecR.of (fun w hr => ?_)
  refine Calls.enter Try.func13 rfl rfl rfl (St.rebase w) ?_
  simp only [argSlots]
  (refine Tri.seq (Tri.region ?_); apply Tri.op; rfl)
  (first | (apply o_boxA; (case hx => rfl); (case hn => rfl); intro b1) | (apply o_box1; (case hx => rfl); (case h1 => rfl); (case hn => rfl); intro b1))
  (apply Tri.op; rfl; apply o_assign; rfl; rfl; refine Tri.nil (Tri.thenN (Tri.seq (Tri.seq (Tri.region ?_)))); apply Tri.op; rfl; apply o_fieldAddr; rfl; rfl; apply Tri.op; rfl; apply o_load; rfl; (with_reducible repeat constructor); rfl; rfl; refine Tri.nil (Tri.thenN ?_); apply Tri.condF; rfl; rfl; refine Tri.skip (Tri.thenN (Tri.seq (Tri.region ?_))); apply Tri.op; rfl; apply o_fieldAddr; rfl; rfl; apply Tri.op; rfl; apply o_load; rfl; (with_reducible repeat constructor); rfl; rfl; apply Tri.op; rfl)
  (apply o_lenRd (hr := hr); (case hx => rfl); (case hn => rfl))
  (apply Tri.op; rfl; apply o_assign; rfl; rfl; refine Tri.nil (Tri.thenN (Tri.ret ?_)))
  (apply Tri.fin; (case hr => rfl); (case h => exact ResL.cons (Res1.tmp rfl) (ResL.nil)); (apply fin_R (Hn := [])); (case p => exact (by (repeat first | with_reducible constructor | constructor))); exact ⟨by simp only [tupled]; done, rfl⟩)
theorem inner_spec {ks : List KEY} {kids : List Int} (h : innerB ks kids = true) : keysTo ks ks.length = true ∧ kidsTo kids kids.length = true ∧ ks.length = kids.length ∧ 1 ≤ kids.length ∧ kids.length ≤ 16 := by
  simp only [innerB, betw, Bool.and_eq_true, decide_eq_true_eq] at h
  refine ⟨h.1.1.1, h.1.1.2, h.1.2, ?_, ?_⟩ <;> omega
theorem keysTo_at {ks : List KEY} : ∀ {n : Nat}, keysTo ks n = true → ∀ i, i < n → keyAt ks i = true
  | n + 1, h, i, hi => by
    rw [keysTo, Bool.and_eq_true] at h
    by_cases e : i = n
    · subst e; exact h.2
    · exact keysTo_at h.1 i (by omega)
theorem kidsTo_at {ks : List Int} : ∀ {n : Nat}, kidsTo ks n = true → ∀ i, i < n → kidAt ks i = true
  | n + 1, h, i, hi => by
    rw [kidsTo, Bool.and_eq_true] at h
    by_cases e : i = n
    · subst e; exact h.2
    · exact kidsTo_at h.1 i (by omega)
theorem key_range {ks : List KEY} {i : Nat} (h : keyAt ks i = true) : 0 ≤ (ks.getD i (0, 0)).1 ∧ (ks.getD i (0, 0)).1 ≤ 4294967295 := by
  simp only [keyAt, keyOk, betw, Bool.and_eq_true, decide_eq_true_eq] at h
  exact h.1
theorem kid_range {ks : List Int} {i : Nat} (h : kidAt ks i = true) : 2 ≤ ks.getD i 0 ∧ ks.getD i 0 ≤ 511 := by
  simp only [kidAt, betw, Bool.and_eq_true, decide_eq_true_eq] at h
  exact h.1
set_option maxHeartbeats 1000000 in
theorem node_putKey (v : Value) (l : List UInt8) (k : KEY) (hk : 0 ≤ k.1 ∧ k.1 ≤ 4294967295) (hl : l.length ≤ 1000) : Gv.Spec Try.prog 86 #[v, keyV k] [own 5 1 v l.length (B8 l)]
    (fun r H' => H' = [own 5 1 r (l ++ keyB k).length (B8 (l ++ keyB k))]) := by
  refine Gv.Spec.of (fun w h0 hw => ?_)
  refine Calls.enter Try.func86 rfl rfl rfl hw ?_
  simp only [argSlots]
  (try dsimp only [List.cons_append, List.nil_append])
  (refine Tri.seq (Tri.region ?_); apply Tri.op; rfl)
  (first | (apply o_boxA; (case hx => rfl); (case hn => rfl); intro b3) | (apply o_box1; (case hx => rfl); (case h1 => rfl); (case hn => rfl); intro b3))
  (apply Tri.op; rfl; apply o_assign; rfl; rfl; refine Tri.nil (Tri.thenN (Tri.seq ?_)))
  ((first | with_reducible apply Tri.mix [blk b3 98 (keyL k)] | (apply TriR.mix [blk b3 98 (keyL k)]; (case hnd => rfl))); (case p => (repeat first | with_reducible constructor | constructor)); (dsimp only [List.length]))
  ((first | (apply TriM.q 0; rfl; rfl) | (apply TriM.qYes 0; rfl; rfl; rfl; with_reducible rfl)); kernel_rfl; rfl; rfl; (intro F K hK; apply o_move; rfl; rfl; exact hK); (first | (apply TriM.q 1; rfl; rfl) | (apply TriM.qYes 1; rfl; rfl; rfl; with_reducible rfl)); kernel_rfl; rfl; rfl; (intro F K hK; apply o_fieldAddr; rfl; rfl; exact hK); (first | (apply TriM.q 2; rfl; rfl) | (apply TriM.qYes 2; rfl; rfl; rfl; with_reducible rfl)); kernel_rfl; rfl; rfl; (intro F K hK; (try dsimp only [List.cons_append, List.nil_append]); apply o_load; rfl; (with_reducible repeat constructor); rfl; rfl; exact hK); (first | (apply TriM.q 3; rfl; rfl) | (apply TriM.qYes 3; rfl; rfl; rfl; with_reducible rfl)); kernel_rfl; rfl; rfl; (intro F K hK; apply o_convI; rfl; rfl; (first | decide | (exact wrap_i64 (by omega)) | (exact wrap_u8 (by omega)) | (exact wrap_u16 (by omega)) | (exact wrap_u32 (by omega)) | (exact wrap_u64 (by omega))); exact hK))
  ((with_reducible apply TriM.setv 8 ((.int .u64 (k.1.toNat : Int)))); (case h => rfl); (case hv => (congr 1; omega)))
  ((first | (apply TriM.q 5; rfl; rfl) | (apply TriM.qYes 5; rfl; rfl; rfl; with_reducible rfl)); kernel_rfl; rfl; rfl; (intro F K hK; apply o_fieldAddr; rfl; rfl; exact hK); (first | (apply TriM.q 6; rfl; rfl) | (apply TriM.qYes 6; rfl; rfl; rfl; with_reducible rfl)); kernel_rfl; rfl; rfl; (intro F K hK; (try dsimp only [List.cons_append, List.nil_append]); apply o_load; rfl; (with_reducible repeat constructor); rfl; rfl; exact hK); (first | (apply TriM.q 7; rfl; rfl) | (apply TriM.qYes 7; rfl; rfl; rfl; with_reducible rfl)); kernel_rfl; rfl; rfl; (intro F K hK; apply o_conv64; rfl; rfl; exact hK))
  ((with_reducible apply TriM.setv 12 ((.int .u64 (n64 k.2 : Int)))); (case h => rfl); (case hv => (congr 1; unfold n64; omega)))
  (apply TriM.a 4; (case ho => rfl); (case hg => rfl); (case hr => kernel_rfl); (try dsimp only [List.cons_append, List.nil_append]))
  (apply o_callS (hs := node_big v l k.1.toNat 4 (by omega) (by omega)); (case hargs => (repeat first | exact evs.nil | (apply evs.cons; case a => rfl))); (case p => (repeat first | with_reducible constructor | constructor)); (case hn => rfl))
  rintro v2 H2 rfl
  obtain ⟨c2, hc2⟩ : ∃ c2, c2 = l ++ bigB k.1.toNat 4 := ⟨_, rfl⟩
  have hl2 : c2.length = l.length + 4 := by rw [hc2, List.length_append, bigB_length]
  rw [← hc2]
  (try dsimp only [List.cons_append, List.nil_append])
  (apply TriM.back; (case p => (repeat first | with_reducible constructor | constructor)))
  (apply TriM.a 8; (case ho => rfl); (case hg => rfl); (case hr => kernel_rfl); (try dsimp only [List.cons_append, List.nil_append]))
  (apply o_callS (hs := node_big v2 c2 (n64 k.2) 8 (by omega) (by omega)); (case hargs => (repeat first | exact evs.nil | (apply evs.cons; case a => rfl))); (case p => (repeat first | with_reducible constructor | constructor)); (case hn => rfl))
  rintro v3 H3 rfl
  (try dsimp only [List.cons_append, List.nil_append])
  have e : c2 ++ bigB (n64 k.2) 8 = l ++ keyB k := by rw [hc2, keyB, List.append_assoc]
  rw [e]
  (apply TriM.back; (case p => (repeat first | with_reducible constructor | constructor)))
  ((first | (apply TriM.q 9; rfl; rfl) | (apply TriM.qYes 9; rfl; rfl; rfl; with_reducible rfl)); kernel_rfl; rfl; rfl; (intro F K hK; apply o_assign; rfl; rfl; exact hK))
  (apply TriM.nil; (case hr => kernel_rfl); (try dsimp only [List.cons_append, List.nil_append]))
  (refine Tri.thenN (Tri.ret ?_))
  (apply Tri.fin; (case hr => rfl); (case h => (repeat (first | exact ResL.nil | (apply ResL.cons; (case a => (first | exact Res1.tmp rfl | (apply Res1.cell; rfl; (with_reducible repeat constructor); rfl) | (apply Res1.agg; rfl; (with_reducible repeat constructor); rfl; rfl))))))); (apply fin_R (Hn := [own 5 1 v3 (l ++ keyB k).length (B8 (l ++ keyB k))])); (case p => (repeat first | with_reducible constructor | constructor)))
  rfl
set_option maxHeartbeats 1000000 in
theorem node_Put_no (ev kv dv : Value) (ks : List KEY) (kids : List Int) (h : innerB ks kids = false) : SpecR Try.prog 53 #[ndV ev kv dv] (fun w => RdW w ev 0 [] ∧ RdW w kv ks.length (KL ks) ∧ RdW w dv kids.length (NL kids)) (fun r H' => r = .tuple #[.slice none 0 0, .int .i64 1] ∧ H' = []) := by
  refine SpecR.of (fun w hrr => ?_)
  obtain ⟨hr0, hr1, hr2⟩ := hrr
  refine Calls.enter Try.func53 rfl rfl rfl (St.rebase w) ?_
  simp only [argSlots]
  (refine Tri.seq (Tri.region ?_); apply Tri.op; rfl)
  (first | (apply o_boxA; (case hx => rfl); (case hn => rfl); intro b1) | (apply o_box1; (case hx => rfl); (case h1 => rfl); (case hn => rfl); intro b1))
  (apply Tri.op; rfl; apply o_assign; rfl; rfl; apply Tri.op; rfl; apply o_assign; rfl; rfl; refine Tri.nil (Tri.thenN (Tri.seq (Tri.seq (Tri.region ?_)))); apply Tri.op; rfl)
  (apply o_loadAll (cs := ndL ev kv dv); (case hx => rfl); (case p => (with_reducible repeat constructor)); (case hl => rfl); (case hn => rfl))
  (apply Tri.op; rfl)
  (apply o_callV (hs := node_Right_inner ev kv dv ks kids); (case hargs => (repeat first | exact evs.nil | (apply evs.cons; case a => rfl))); (case hpre => exact fun w' hw' => ⟨rdw_ex (by (with_reducible repeat constructor)) hr0 w' hw', rdw_ex (by (with_reducible repeat constructor)) hr1 w' hw', rdw_ex (by (with_reducible repeat constructor)) hr2 w' hw'⟩); (case hn => rfl))
  (apply Tri.op; rfl; apply o_not; rfl; rfl; refine Tri.nil (Tri.thenN ?_))
  ((with_reducible apply Tri.setb 11 (true)); (case h => rfl); (case hi => (rw [h]; rfl)))
  (apply Tri.condT; rfl; rfl; refine Tri.seq (Tri.region ?_); apply Tri.op; rfl; apply o_assign; rfl; rfl; apply Tri.op; rfl; apply o_assign; rfl; rfl; refine Tri.nil (Tri.thenN (Tri.ret (Tri.thenR ?_))))
  (apply Tri.fin; (case hr => rfl); (case h => exact ResL.cons (Res1.tmp rfl) (ResL.cons (Res1.tmp rfl) (ResL.nil))); (apply fin_R (Hn := [])); (case p => exact (by (repeat first | with_reducible constructor | constructor))); exact ⟨by simp only [tupled]; done, rfl⟩)
set_option maxHeartbeats 4000000 in
theorem node_Put (ev kv dv : Value) (ks : List KEY) (kids : List Int) (h : innerB ks kids = true) : SpecR Try.prog 53 #[ndV ev kv dv] (fun w => RdW w ev 0 [] ∧ RdW w kv ks.length (KL ks) ∧ RdW w dv kids.length (NL kids)) (fun r H' => ∃ u, r = .tuple #[u, .int .i64 0] ∧ H' = [own 5 1 u (putI ks kids).length (B8 (putI ks kids))]) := by
  refine SpecR.of (fun w hrr => ?_)
  obtain ⟨hr0, hr1, hr2⟩ := hrr
  obtain ⟨i1, i2, i3, i4, i5⟩ := inner_spec h
  refine Calls.enter Try.func53 rfl rfl rfl (St.rebase w) ?_
  simp only [argSlots]
  (refine Tri.seq (Tri.region ?_); apply Tri.op; rfl)
  (first | (apply o_boxA; (case hx => rfl); (case hn => rfl); intro b1) | (apply o_box1; (case hx => rfl); (case h1 => rfl); (case hn => rfl); intro b1))
  (apply Tri.op; rfl; apply o_assign; rfl; rfl; apply Tri.op; rfl; apply o_assign; rfl; rfl; refine Tri.nil (Tri.thenN (Tri.seq (Tri.seq (Tri.region ?_)))); apply Tri.op; rfl)
  (apply o_loadAll (cs := ndL ev kv dv); (case hx => rfl); (case p => (with_reducible repeat constructor)); (case hl => rfl); (case hn => rfl))
  (apply Tri.op; rfl)
  (apply o_callV (hs := node_Right_inner ev kv dv ks kids); (case hargs => (repeat first | exact evs.nil | (apply evs.cons; case a => rfl))); (case hpre => exact fun w' hw' => ⟨rdw_ex (by (with_reducible repeat constructor)) hr0 w' hw', rdw_ex (by (with_reducible repeat constructor)) hr1 w' hw', rdw_ex (by (with_reducible repeat constructor)) hr2 w' hw'⟩); (case hn => rfl))
  (apply Tri.op; rfl; apply o_not; rfl; rfl; refine Tri.nil (Tri.thenN ?_))
  ((with_reducible apply Tri.setb 11 (false)); (case h => rfl); (case hi => (rw [h]; rfl)))
  (apply Tri.condF; rfl; rfl; refine Tri.skip (Tri.thenN (Tri.seq (Tri.region ?_))); apply Tri.op; rfl)
  (apply o_loadAll (cs := ndL ev kv dv); (case hx => rfl); (case p => (with_reducible repeat constructor)); (case hl => rfl); (case hn => rfl))
  (apply Tri.op; rfl)
  (apply o_callV (hs := node_Size_inner ev kv dv kids); (case hargs => (repeat first | exact evs.nil | (apply evs.cons; case a => rfl))); (case hpre => exact rdw_ex (by (with_reducible repeat constructor)) hr2); (case hn => rfl))
  (apply Tri.op; rfl; apply o_convI; rfl; rfl; (first | decide | (exact wrap_i64 (by omega)) | (exact wrap_u8 (by omega)) | (exact wrap_u16 (by omega)) | (exact wrap_u32 (by omega)) | (exact wrap_u64 (by omega))); apply Tri.op; rfl)
  ((with_reducible apply Tri.seti 14 (((UInt8.ofNat kids.length).toNat : Int))); (case h => rfl); (case hi => (have : ((UInt8.ofNat kids.length).toNat : Int) = (kids.length : Int) % 256 := by { simp }; omega)))
  (apply o_litSl (ys := [.int .u8 ((UInt8.ofNat kids.length).toNat : Int)]); (case hp => (repeat first | exact pev.nil | (apply pev.cons; case a => rfl))); (case hm => rfl); (case hf => rfl); (case hn => rfl); intro v4)
  (apply Tri.op; rfl; apply o_assign; rfl; rfl; refine Tri.nil (Tri.thenN (Tri.seq (Tri.seq (Tri.region ?_)))); apply Tri.op; rfl; apply o_fieldAddr; rfl; rfl; apply Tri.op; rfl; apply o_load; rfl; (with_reducible repeat constructor); rfl; rfl; apply Tri.op; rfl)
  (apply o_lenRd (hr := hr0); (case hx => rfl); (case hn => rfl))
  (apply Tri.op; rfl; apply o_move; rfl; rfl; refine Tri.nil (Tri.thenN (Tri.block ?_)))
  ((with_reducible apply Tri.eqA (A := own 5 1 v4 _ _) (B := own 5 1 v4 (UInt8.ofNat kids.length :: kidsB ks kids 0).length (B8 (UInt8.ofNat kids.length :: kidsB ks kids 0)))); (case p => (with_reducible repeat constructor)); (case e => rfl))
  (apply Tri.loop (α := Unit) (m := fun _ => 0) (Lx := fun _ => [(1, .pointer (some ⟨b1, 0, none⟩)), (4, v4), (17, ev), (18, .int .i64 0), (19, .int .i64 0)]) (Hx := fun _ => [own 5 1 v4 (UInt8.ofNat kids.length :: kidsB ks kids 0).length (B8 (UInt8.ofNat kids.length :: kidsB ks kids 0)), blk b1 33 (ndL ev kv dv), Ex (hp w)]) (x0 := ()); (case hL => ((try dsimp only); (repeat (first | exact trivial | refine And.intro (by rfl) ?_)))); (case hH => ((try dsimp only); apply St.all; (repeat first | with_reducible constructor | constructor)))); (rintro ⟨⟩ mx hmx; (try dsimp only at hmx ⊢))
  (refine Tri.seq (Tri.region ?_); apply Tri.op; rfl; apply o_lss; rfl; rfl; rfl; refine Tri.nil (Tri.thenN (Tri.seq ?_)))
  (apply Tri.condD; (case hc => rfl); (all_goals intro hz))
  · omega
  ((with_reducible refine Tri.exit (Tri.thenE (Tri.thenE (Tri.blockE (Tri.thenN (Tri.seq (Tri.seq (Tri.region ?_)))))))); apply Tri.op; rfl; apply o_fieldAddr; rfl; rfl; apply Tri.op; rfl; apply o_load; rfl; (with_reducible repeat constructor); rfl; rfl; apply Tri.op; rfl)
  (apply o_lenRd (hr := hr2); (case hx => rfl); (case hn => rfl))
  (apply Tri.op; rfl; apply o_move; rfl; rfl; refine Tri.nil (Tri.thenN (Tri.block ?_)))
  (apply Tri.loop (α := Σ' (i : Nat) (u : Value), i ≤ kids.length) (m := fun x => kids.length - x.1) (Lx := fun x => [(1, .pointer (some ⟨b1, 0, none⟩)), (4, x.2.1), (55, dv), (56, .int .i64 (kids.length : Int)), (57, .int .i64 (x.1 : Int))]) (Hx := fun x => [own 5 1 x.2.1 (UInt8.ofNat kids.length :: kidsB ks kids x.1).length (B8 (UInt8.ofNat kids.length :: kidsB ks kids x.1)), blk b1 33 (ndL ev kv dv), Ex (hp w)]) (x0 := ⟨0, v4, Nat.zero_le _⟩); (case hL => ((try dsimp only); (repeat (first | exact trivial | refine And.intro (by rfl) ?_)))); (case hH => ((try dsimp only); apply St.all; (repeat first | with_reducible constructor | constructor)))); (rintro ⟨i, u, hi⟩ mx hmx; (try dsimp only at hmx ⊢))
  obtain ⟨c0, hc0⟩ : ∃ c0, c0 = UInt8.ofNat kids.length :: kidsB ks kids i := ⟨_, rfl⟩
  have hl0 : c0.length = 1 + i * 14 := by rw [hc0, List.length_cons, kidsB_length]; omega
  rw [← hc0]
  (refine Tri.seq (Tri.region ?_); apply Tri.op; rfl; apply o_lss; rfl; rfl; rfl; refine Tri.nil (Tri.thenN (Tri.seq ?_)))
  (apply Tri.condD; (case hc => rfl); (all_goals intro hc))
  · have hil : i < kids.length := by omega
    have hik : i < ks.length := by omega
    have hkr := key_range (keysTo_at i1 i hik)
    have hcr := kid_range (kidsTo_at i2 i hil)
    (refine Tri.skip (Tri.thenN (Tri.seq (Tri.block (Tri.seq (Tri.region ?_))))); apply Tri.op; rfl; apply o_move; rfl; rfl; apply Tri.op; rfl)
    (apply o_ixRd (hr := hr2) (j := i); (case hx => rfl); (case hy => rfl); (case hj => rfl); (case hlt => exact hil); (case hl => (rw [NL_length]; omega)); (case hn => rfl))
    (apply Tri.op; rfl)
    (apply o_loadRd (hr := hr2); (case hx => rfl); (case p => (with_reducible repeat constructor)); (case hv => exact (by rw [Nat.mul_one]; exact NL_get kids i hil)); (case hn => rfl))
    (apply Tri.op; rfl; apply o_assign; rfl; rfl; apply Tri.op; rfl; apply o_assign; rfl; rfl; refine Tri.nil (Tri.thenN (Tri.region ?_)); apply Tri.op; rfl; apply o_move; rfl; rfl; apply Tri.op; rfl; apply o_fieldAddr; rfl; rfl; apply Tri.op; rfl; apply o_load; rfl; (with_reducible repeat constructor); rfl; rfl; apply Tri.op; rfl; apply o_move; rfl; rfl; apply Tri.op; rfl)
    (apply o_ixRd (hr := hr1) (j := i); (case hx => rfl); (case hy => rfl); (case hj => rfl); (case hlt => exact hik); (case hl => (rw [KL_length]; omega)); (case hn => rfl))
    (apply Tri.op; rfl)
    (apply o_loadAggRd (hr := hr1); (case hx => rfl); (case p => (with_reducible repeat constructor)); (case hv => exact KL_two ks i hik); (case hl => rfl); (case hn => rfl))
    (apply Tri.op; rfl)
    (apply o_callS (hs := node_putKey u c0 (ks.getD i (0, 0)) hkr (by omega)); (case hargs => (repeat first | exact evs.nil | (apply evs.cons; case a => rfl))); (case p => (repeat first | with_reducible constructor | constructor)); (case hn => rfl))
    rintro v2 H2 rfl
    obtain ⟨c2, hc2⟩ : ∃ c2, c2 = c0 ++ keyB (ks.getD i (0, 0)) := ⟨_, rfl⟩
    have hl2 : c2.length = 13 + i * 14 := by rw [hc2, List.length_append, hl0, keyB_length]; omega
    rw [← hc2]
    (try dsimp only [List.cons_append, List.nil_append])
    (apply Tri.op; rfl; apply o_move; rfl; rfl; apply Tri.op; rfl; apply o_convI; rfl; rfl; (first | decide | (exact wrap_i64 (by omega)) | (exact wrap_u8 (by omega)) | (exact wrap_u16 (by omega)) | (exact wrap_u32 (by omega)) | (exact wrap_u64 (by omega))); apply Tri.op; rfl)
    ((with_reducible apply Tri.seti 70 (((kids.getD i 0).toNat : Int))); (case h => rfl); (case hi => omega))
    (apply o_callS (hs := node_big v2 c2 (kids.getD i 0).toNat 2 (by omega) (by omega)); (case hargs => (repeat first | exact evs.nil | (apply evs.cons; case a => rfl))); (case p => (repeat first | with_reducible constructor | constructor)); (case hn => rfl))
    rintro v3 H3 rfl
    have e : c2 ++ bigB (kids.getD i 0).toNat 2 = UInt8.ofNat kids.length :: kidsB ks kids (i + 1) := by rw [hc2, hc0, kidsB, List.cons_append, List.cons_append, List.append_assoc]
    rw [e]
    (try dsimp only [List.cons_append, List.nil_append])
    (apply Tri.op; rfl; apply o_assign; rfl; rfl; refine Tri.nil (Tri.blockN (Tri.thenN (Tri.region ?_))); apply Tri.op; rfl; apply o_add64; rfl; rfl; rfl; (omega); apply Tri.op; rfl; apply o_move; rfl; rfl; refine Tri.nil (Tri.thenN ?_))
    (apply Tri.again (y := ⟨i + 1, v3, by omega⟩); (case p => ((try dsimp only); (repeat (first | exact Pulls.nil | (apply Pulls.cons; (case a => (first | ((repeat (first | with_reducible exact Gv.Pull.head | with_reducible apply Gv.Pull.tail)); done) | (repeat (first | exact Gv.Pull.head | apply Gv.Pull.tail))))))))); (case hm => ((try dsimp only); omega)); (try dsimp only))
    (repeat (first | exact trivial | refine And.intro (by rfl) ?_))
  · obtain rfl : i = kids.length := by omega
    ((with_reducible refine Tri.exit (Tri.thenE (Tri.thenE (Tri.blockE (Tri.thenN (Tri.seq (Tri.region ?_))))))); apply Tri.op; rfl; apply o_move; rfl; rfl; apply Tri.op; rfl; apply o_assign; rfl; rfl; apply Tri.op; rfl; apply o_assign; rfl; rfl; refine Tri.nil (Tri.thenN (Tri.ret ?_)))
    ((with_reducible apply Tri.eqA (A := own 5 1 u _ _) (B := own 5 1 u (putI ks kids).length (B8 (putI ks kids)))); (case p => (with_reducible repeat constructor)); (case e => (rw [hc0]; rfl)))
    (apply Tri.fin; (case hr => rfl); (case h => exact ResL.cons (Res1.tmp rfl) (ResL.cons (Res1.tmp rfl) (ResL.nil))); (apply fin_R (Hn := [own 5 1 u (putI ks kids).length (B8 (putI ks kids))])); (case p => exact (by (repeat first | with_reducible constructor | constructor))); exact ⟨u, rfl, rfl⟩)
end Go.Proofs.Ytckdlfbbkemklaa
end
section
/- node: Get, of inner nodes; has a node its bytes? -/
namespace Go.Proofs.Ytckdlfbbkemklaa
open Go Go.RowKit Go.Gv
set_option linter.unusedVariables false
set_option linter.unusedSimpArgs false

theorem sub_rd' {h : PH} {v : Value} {l : List UInt8} (hr : Rd h v l.length (B8 l)) (lo hi : Nat) (h1 : lo ≤ hi) (h2 : hi ≤ l.length) : Rd h (subv v 1 lo hi) ((l.drop lo).take (hi - lo)).length (B8 ((l.drop lo).take (hi - lo))) := by
  have := hr.subv (size := 1) h1 h2
  rw [B8_sub] at this
  rw [show ((l.drop lo).take (hi - lo)).length = hi - lo by rw [List.length_take, List.length_drop]; omega]
  exact this
theorem drop_rd {h : PH} {v : Value} {l : List UInt8} (hr : Rd h v l.length (B8 l)) (k : Nat) (hk : k ≤ l.length) : Rd h (subv v 1 k l.length) (l.drop k).length (B8 (l.drop k)) := by
  have := sub_rd' hr k l.length hk (Nat.le_refl _)
  rwa [List.take_of_length_le (by rw [List.length_drop]; omega)] at this
theorem get_or' (l : List UInt8) (i : Nat) (h : i < l.length) : (B8 l)[i]? = some (.int .u8 ((l.getD i 0).toNat : Int)) := by
  rw [B8_get l i h, List.getD_eq_getElem?_getD, List.getElem?_eq_getElem h]; rfl
theorem s64_wrap (n : Nat) (h : n < 18446744073709551616) : IntKind.i64.wrap (n : Int) = s64 n := by
  rw [IntKind.wrap_i64]; unfold s64; split <;> omega
set_option maxHeartbeats 1000000 in
theorem node_take (r : Nat) (u : Value) (l : List UInt8) (size : Nat) (h1 : PH) (hr : Rd h1 u l.length (B8 l)) (hs : size ≤ l.length) (h8 : size ≤ 8) : Gv.Spec Try.prog 89 #[.pointer (some ⟨r, 0, none⟩), .int .i64 (size : Int)] [blk r 179 [u], Ex h1]
    (fun x H' => x = .int .u64 (numB (l.take size) : Int) ∧ ∃ A c, Rd h1 (.slice A (l.drop size).length c) (l.drop size).length (B8 (l.drop size)) ∧ H' = [blk r 179 [.slice A (l.drop size).length c], Ex h1]) := by
  refine Gv.Spec.of (fun w h0 hw => ?_)
  refine Calls.enter Try.func89 rfl rfl rfl hw ?_
  simp only [argSlots]
  (try dsimp only [List.cons_append, List.nil_append])
  have hm : Rd h1 (subv u 1 0 size) (l.take size).length (B8 (l.take size)) := by
    have := sub_rd' hr 0 size (by omega) hs
    rwa [List.drop_zero, Nat.sub_zero] at this
  have hml : (l.take size).length = size := by rw [List.length_take]; omega
  have hd := drop_rd hr size hs
  (refine Tri.seq (Tri.region ?_); apply Tri.op; rfl; apply o_assign; rfl; rfl; refine Tri.nil (Tri.thenN (Tri.seq (Tri.region ?_))); apply Tri.op; rfl; apply o_assign; rfl; rfl; refine Tri.nil (Tri.thenN (Tri.seq (Tri.seq (Tri.region ?_)))); apply Tri.op; rfl; apply o_move; rfl; rfl; apply Tri.op; rfl; apply o_nilCheck; rfl; rfl; apply Tri.op; rfl; apply o_fieldAddr; rfl; rfl; apply Tri.op; rfl; apply o_load; rfl; (with_reducible repeat constructor); rfl; rfl; apply Tri.op; rfl; apply o_move; rfl; rfl; apply Tri.op; rfl)
  (apply o_slice (lo := 0) (hi := size); (case hx => rfl); (case hr => exact rdw_ex (by (with_reducible repeat constructor)) hr); (case hol => first | exact fun _ _ => rfl | exact fun a ha => congrArg some (ha.eval rfl)); (case hoh => first | exact fun _ _ => rfl | exact fun a ha => congrArg some (ha.eval rfl)); (case hlo => first | exact .inr ⟨rfl, rfl⟩ | exact .inl ⟨_, rfl⟩ | exact .inl ⟨_, (by congr 2; omega)⟩); (case hhi => first | exact .inr ⟨rfl, rfl⟩ | exact .inl ⟨_, rfl⟩ | exact .inl ⟨_, (by congr 2; omega)⟩); (case hlh => omega); (case hhm => omega); (case hn => rfl))
  (apply Tri.op; rfl)
  (apply o_lenRd (hr := hm); (case hx => rfl); (case hn => rfl))
  (apply Tri.op; rfl; apply o_move; rfl; rfl; refine Tri.nil (Tri.thenN (Tri.block ?_)))
  (apply Tri.loop (α := { k : Nat // k ≤ size }) (m := fun x => size - x.1) (Lx := fun x => [(0, .pointer (some ⟨r, 0, none⟩)), (1, .int .i64 (size : Int)), (5, .int .u64 (numB ((l.take size).take x.1) : Int)), (13, subv u 1 0 size), (14, .int .i64 ((l.take size).length : Int)), (15, .int .i64 (x.1 : Int))]) (Hx := fun x => [blk r 179 [u], Ex h1, Ex h0]) (x0 := ⟨0, Nat.zero_le _⟩); (case hL => ((try dsimp only); (repeat (first | exact trivial | refine And.intro (by rfl) ?_)))); (case hH => ((try dsimp only); apply St.all; (repeat first | with_reducible constructor | constructor)))); (rintro ⟨k, hk⟩ mx hmx; (try dsimp only at hmx ⊢))
  (refine Tri.seq (Tri.region ?_); apply Tri.op; rfl; apply o_lss; rfl; rfl; rfl; refine Tri.nil (Tri.thenN (Tri.seq ?_)))
  (apply Tri.condD; (case hc => rfl); (all_goals intro h))
  · have hk' : k < (l.take size).length := by omega
    have hb := numB_lt ((l.take size).take k)
    have hb2 : numB ((l.take size).take k) < 256 ^ 7 := Nat.lt_of_lt_of_le hb (Nat.pow_le_pow_right (by omega) (by rw [List.length_take]; omega))
    (refine Tri.skip (Tri.thenN (Tri.seq (Tri.block (Tri.seq (Tri.region ?_))))); apply Tri.op; rfl)
    (apply o_ixRd (hr := hm) (j := k); (case hx => rfl); (case hy => rfl); (case hj => rfl); (case hlt => exact hk'); (case hl => (rw [B8_length]; omega)); (case hn => rfl))
    (apply Tri.op; rfl)
    (apply o_loadRd (hr := hm); (case hx => rfl); (case p => (with_reducible repeat constructor)); (case hv => exact (by rw [Nat.mul_one]; exact B8_get _ k hk')); (case hn => rfl))
    (apply Tri.op; rfl; apply o_assign; rfl; rfl; refine Tri.nil (Tri.thenN (Tri.region ?_)); apply Tri.op; rfl; apply o_move; rfl; rfl; apply Tri.op; rfl; apply o_shl; rfl; rfl; rfl; (omega); apply Tri.op; rfl; apply o_move; rfl; rfl; apply Tri.op; rfl; apply o_conv64; rfl; rfl; apply Tri.op; rfl; apply o_or; rfl; rfl; rfl; apply Tri.op; rfl; apply o_assign; rfl; rfl; refine Tri.nil (Tri.blockN (Tri.thenN (Tri.region ?_))); apply Tri.op; rfl; apply o_add64; rfl; rfl; rfl; (omega); apply Tri.op; rfl; apply o_move; rfl; rfl; refine Tri.nil (Tri.thenN ?_))
    have hy : ((((l.take size)[k]'hk').toNat : Nat) : Int) % 18446744073709551616 = (((l.take size)[k]'hk').toNat : Int) := by have := ((l.take size)[k]'hk').toNat_lt; omega
    have hor := or8_64 (numB ((l.take size).take k)) ((l.take size)[k]'hk') (by omega)
    ((with_reducible apply Tri.seti 5 ((numB ((l.take size).take (k + 1)) : Int))); (case h => rfl); (case hi => (rw [numB_take (l.take size) k hk', hy]; exact hor)))
    (apply Tri.again (y := ⟨k + 1, by omega⟩); (case p => ((try dsimp only); (repeat (first | exact Pulls.nil | (apply Pulls.cons; (case a => (first | ((repeat (first | with_reducible exact Gv.Pull.head | with_reducible apply Gv.Pull.tail)); done) | (repeat (first | exact Gv.Pull.head | apply Gv.Pull.tail))))))))); (case hm => ((try dsimp only); omega)); (try dsimp only))
    (repeat (first | exact trivial | refine And.intro (by rfl) ?_))
  · obtain rfl : k = size := by omega
    ((with_reducible apply Tri.seti 5 ((numB (l.take k) : Int))); (case h => rfl); (case hi => (rw [List.take_of_length_le (l := l.take k) (Nat.le_of_eq hml)])))
    ((with_reducible refine Tri.exit (Tri.thenE (Tri.thenE (Tri.blockE (Tri.thenN (Tri.seq (Tri.region ?_))))))); apply Tri.op; rfl; apply o_move; rfl; rfl; apply Tri.op; rfl; apply o_move; rfl; rfl; apply Tri.op; rfl; apply o_nilCheck; rfl; rfl; apply Tri.op; rfl; apply o_fieldAddr; rfl; rfl; apply Tri.op; rfl; apply o_load; rfl; (with_reducible repeat constructor); rfl; rfl; apply Tri.op; rfl; apply o_move; rfl; rfl; apply Tri.op; rfl)
    (apply o_slice (lo := k) (hi := l.length); (case hx => rfl); (case hr => exact rdw_ex (by (with_reducible repeat constructor)) hr); (case hol => first | exact fun _ _ => rfl | exact fun a ha => congrArg some (ha.eval rfl)); (case hoh => first | exact fun _ _ => rfl | exact fun a ha => congrArg some (ha.eval rfl)); (case hlo => first | exact .inr ⟨rfl, rfl⟩ | exact .inl ⟨_, rfl⟩ | exact .inl ⟨_, (by congr 2; omega)⟩); (case hhi => first | exact .inr ⟨rfl, rfl⟩ | exact .inl ⟨_, rfl⟩ | exact .inl ⟨_, (by congr 2; omega)⟩); (case hlh => omega); (case hhm => omega); (case hn => rfl))
    obtain ⟨A, c, he, _⟩ := id hd
    rw [he] at hd
    ((with_reducible apply Tri.setv 31 ((.slice A (l.drop k).length c))); (case h => rfl); (case hv => exact he))
    (apply Tri.op; rfl; apply o_nilCheck; rfl; rfl; apply Tri.op; rfl; apply o_fieldAddr; rfl; rfl; apply Tri.op; rfl)
    (apply o_store; (case hx => rfl); (case hy => rfl); (case h1 => rfl); (case p => (with_reducible repeat constructor)); (case hi => (show 0 < 1; omega)))
    (refine Tri.nil (Tri.thenN (Tri.seq (Tri.region ?_))); apply Tri.op; rfl; apply o_move; rfl; rfl; apply Tri.op; rfl; apply o_assign; rfl; rfl; refine Tri.nil (Tri.thenN (Tri.ret ?_)))
    (apply Tri.fin; (case hr => rfl); (case h => exact ResL.cons (Res1.tmp rfl) (ResL.nil)); (apply fin_R (Hn := [blk r 179 [.slice A (l.drop k).length c], Ex h1])); (case p => exact (by (repeat (first | exact Pulls.nil | (apply Pulls.cons; (case a => (first | ((repeat (first | with_reducible exact Gv.Pull.head | with_reducible apply Gv.Pull.tail)); done) | (repeat (first | exact Gv.Pull.head | apply Gv.Pull.tail))))))))); exact ⟨rfl, A, c, hd, rfl⟩)

set_option maxHeartbeats 1000000 in
theorem node_key (r : Nat) (u : Value) (l : List UInt8) (h1 : PH) (hr : Rd h1 u l.length (B8 l)) (hs : 12 ≤ l.length) : Gv.Spec Try.prog 88 #[.pointer (some ⟨r, 0, none⟩)] [blk r 179 [u], Ex h1]
    (fun x H' => x = keyV ((numB (l.take 4) : Int), s64 (numB ((l.drop 4).take 8))) ∧ ∃ A c, Rd h1 (.slice A (l.drop 12).length c) (l.drop 12).length (B8 (l.drop 12)) ∧ H' = [blk r 179 [.slice A (l.drop 12).length c], Ex h1]) := by
  refine Gv.Spec.of (fun w h0 hw => ?_)
  refine Calls.enter Try.func88 rfl rfl rfl hw ?_
  simp only [argSlots]
  (try dsimp only [List.cons_append, List.nil_append])
  have hb4 := numB_lt (l.take 4)
  rw [show (l.take 4).length = 4 by rw [List.length_take]; omega] at hb4
  have hb8 := numB_lt ((l.drop 4).take 8)
  rw [show ((l.drop 4).take 8).length = 8 by rw [List.length_take, List.length_drop]; omega] at hb8
  (refine Tri.seq (Tri.region ?_); apply Tri.op; rfl)
  (apply o_alloc; (case hn => rfl); intro b2)
  (refine Tri.nil (Tri.thenN (Tri.seq (Tri.region ?_))); apply Tri.op; rfl; apply o_move; rfl; rfl; apply Tri.op; rfl)
  (apply o_callS (hs := node_take r u l 4 h1 hr (by omega) (by omega)); (case hargs => (repeat first | exact evs.nil | (apply evs.cons; case a => rfl))); (case p => (repeat first | with_reducible constructor | constructor)); (case hn => rfl))
  rintro x1 H1 ⟨rfl, A1, c1, hr1, rfl⟩
  (try dsimp only [List.cons_append, List.nil_append])
  (apply Tri.op; rfl; apply o_convI; rfl; rfl; (first | decide | (exact wrap_i64 (by omega)) | (exact wrap_u8 (by omega)) | (exact wrap_u16 (by omega)) | (exact wrap_u32 (by omega)) | (exact wrap_u64 (by omega))); apply Tri.op; rfl; apply o_move; rfl; rfl; apply Tri.op; rfl)
  ((with_reducible apply o_callS (hs := node_take r (.slice A1 (l.drop 4).length c1) (l.drop 4) 8 h1 hr1 (by rw [List.length_drop]; omega) (by omega))); (case hargs => (repeat first | exact evs.nil | (apply evs.cons; case a => rfl))); (case p => (repeat first | with_reducible constructor | constructor)); (case hn => rfl))
  rintro x2 H2 ⟨rfl, A2, c2, hr2, rfl⟩
  rw [List.drop_drop] at hr2 ⊢
  (try dsimp only [List.cons_append, List.nil_append])
  (apply Tri.op; rfl; apply o_conv; rfl; rfl; apply Tri.op; rfl)
  ((with_reducible apply Tri.seti 8 ((s64 (numB ((l.drop 4).take 8))))); (case h => rfl); (case hi => exact s64_wrap _ (by omega)))
  ((with_reducible apply Tri.seti 5 ((numB (l.take 4) : Int))); (case h => rfl); (case hi => rfl))
  (apply o_build (ys := keyL ((numB (l.take 4) : Int), s64 (numB ((l.drop 4).take 8)))); (case hp => (repeat first | exact pev.nil | (apply pev.cons; case a => rfl))); (case hf => rfl); (case hn => rfl))
  (apply Tri.op; rfl)
  (apply o_storeAll (ys := keyL ((numB (l.take 4) : Int), s64 (numB ((l.drop 4).take 8)))); (case hx => rfl); (case hy => rfl); (case p => (with_reducible repeat constructor)); (case hl => rfl); (case hc => rfl); (case h1 => exact keyL_one _))
  (refine Tri.nil (Tri.thenN (Tri.ret ?_)))
  (apply Tri.fin; (case hr => rfl); (case h => exact ResL.cons ((Res1.agg rfl (by (with_reducible repeat constructor)) (by rw [List.drop_zero]; exact List.take_of_length_le (Nat.le_of_eq (show (keyL ((numB (l.take 4) : Int), s64 (numB ((l.drop 4).take 8)))).length = 2 from rfl))) (show (keyL ((numB (l.take 4) : Int), s64 (numB ((l.drop 4).take 8)))).length = 2 from rfl))) (ResL.nil)); (apply fin_R (Hn := [blk r 179 [.slice A2 (l.drop (4 + 8)).length c2], Ex h1])); (case p => exact (by (repeat first | with_reducible constructor | constructor))); exact ⟨rfl, A2, c2, hr2, rfl⟩)
end Go.Proofs.Ytckdlfbbkemklaa
end
