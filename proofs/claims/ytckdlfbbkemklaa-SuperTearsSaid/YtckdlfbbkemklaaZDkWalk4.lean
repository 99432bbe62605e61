import Derived.Test.YtckdlfbbkemklaaZDkWalk3
/- disk: Read and Flush. -/
namespace Go.Proofs.Ytckdlfbbkemklaa
open Go Go.RowKit Go.Gv
set_option linter.unusedVariables false
set_option linter.unusedSimpArgs false

theorem lastW_len {N : Nat} {W : List WW} (hW : WOk N W) {i : Int} {b : List UInt8} : ∀ k, lastW W i k = some b → b.length = 64
  | 0, h => by cases h
  | k + 1, h => by
    rw [lastW] at h
    split at h
    · rename_i x hx
      split at h
      · cases h; exact (hW x (List.mem_of_getElem? hx)).2
      · exact lastW_len hW k h
    · exact lastW_len hW k h
theorem readM_len {A : List UInt8} {W : List WW} (hW : WOk A.length W) {i : Int} (hi : 0 ≤ i ∧ i * 64 + 64 ≤ A.length) : (readM A W i).length = 64 := by
  unfold readM
  cases h : lastW W i W.length with
  | some b => exact lastW_len hW _ h
  | none =>
    show ((A.drop (i.toNat * 64)).take 64).length = 64
    rw [List.length_take, List.length_drop]; omega

set_option maxHeartbeats 4000000 in
theorem disk_Read (p a : Nat) (vw : Value) (A : List UInt8) (W : List WW) (off : Bool) (till i : Int) (hA : A.length ≤ 1000000) (hW : WOk A.length W) (hWl : W.length ≤ 1000000) :
    Gv.Spec Try.prog 140 #[.pointer (some ⟨p, 0, none⟩), .int .i64 i] [blk p 132 [.slice (some ⟨a, 0, none⟩) (A).length (A).length, vw, .bool off, .int .i64 till], blk a 5 (B8 (A)), own 139 2 vw (W).length (WL (W)), manyRd (WT (W))]
    (fun r H' => (mayE off A.length i ≠ 0 ∧ r = .tuple #[.slice none 0 0, .int .i64 (mayE off A.length i : Int)] ∧ H' = [blk p 132 [.slice (some ⟨a, 0, none⟩) (A).length (A).length, vw, .bool off, .int .i64 till], blk a 5 (B8 (A)), own 139 2 vw (W).length (WL (W)), manyRd (WT (W))])
      ∨ (mayE off A.length i = 0 ∧ ∃ v, r = .tuple #[v, .int .i64 0] ∧ H' = [own 5 1 v (readM A W i).length (B8 (readM A W i)), blk p 132 [.slice (some ⟨a, 0, none⟩) (A).length (A).length, vw, .bool off, .int .i64 till], blk a 5 (B8 (A)), own 139 2 vw (W).length (WL (W)), manyRd (WT (W))])) := by
  refine Gv.Spec.of (fun w h0 hw => ?_)
  refine Calls.enter Try.func140 rfl rfl rfl hw ?_
  simp only [argSlots]
  (try dsimp only [List.cons_append, List.nil_append])
  ((with_reducible refine Tri.seq (Tri.region ?_)); (with_reducible apply Tri.op); rfl; (with_reducible apply o_assign); rfl; rfl; (with_reducible apply Tri.op); rfl; (with_reducible apply o_assign); rfl; rfl; (with_reducible refine Tri.nil (Tri.thenN (Tri.seq (Tri.seq (Tri.region ?_))))); (with_reducible apply Tri.op); rfl; (with_reducible apply o_move); rfl; rfl; (with_reducible apply Tri.op); rfl; (with_reducible apply o_move); rfl; rfl; (with_reducible apply Tri.op); rfl)
  ((with_reducible apply o_callS (hs := disk_may p a A.length vw off till i hA)); (case hargs => (repeat first | exact evs.nil | (apply evs.cons; case a => rfl))); (case p => (repeat first | exact Pulls.nil | (apply Pulls.cons; repeat first | with_reducible exact Pull.head | apply Pull.tail))); (case hn => rfl))
  rintro r1 H1 ⟨rfl, rfl⟩
  (try dsimp only [List.cons_append, List.nil_append])
  ((with_reducible apply Tri.op); rfl; (with_reducible apply o_assign); rfl; rfl; (with_reducible refine Tri.nil (Tri.thenN (Tri.seq (Tri.region ?_)))); (with_reducible apply Tri.op); rfl; (with_reducible apply o_move); rfl; rfl; (with_reducible apply Tri.op); rfl; (with_reducible apply o_neq); rfl; rfl; rfl; (with_reducible refine Tri.nil (Tri.thenN ?_)))
  ((first | with_reducible apply Tri.condD | with_reducible apply TriR.condD); (case hc => rfl); (all_goals intro hm))
  · ((with_reducible refine Tri.seq (Tri.region ?_)); (with_reducible apply Tri.op); rfl; (with_reducible apply o_move); rfl; rfl; (with_reducible apply Tri.op); rfl; (with_reducible apply o_assign); rfl; rfl; (with_reducible apply Tri.op); rfl; (with_reducible apply o_assign); rfl; rfl; (with_reducible refine Tri.nil (Tri.thenN (Tri.ret (Tri.thenR ?_)))))
    ((first | with_reducible apply Tri.fin | with_reducible apply Tri.finN); (case hr => rfl); (case h => (repeat (first | exact ResL.nil | (apply ResL.cons; (case a => (first | exact Res1.tmp rfl | (apply Res1.cell; rfl; (repeat first | with_reducible exact Pull.head | apply Pull.tail); rfl) | (apply Res1.agg; rfl; (repeat first | with_reducible exact Pull.head | apply Pull.tail); rfl; rfl))))))); (apply fin_R (Hn := [blk p 132 [.slice (some ⟨a, 0, none⟩) (A).length (A).length, vw, .bool off, .int .i64 till], blk a 5 (B8 (A)), own 139 2 vw (W).length (WL (W)), manyRd (WT (W))])); (case p => (repeat first | exact Pulls.nil | (apply Pulls.cons; repeat first | with_reducible exact Pull.head | apply Pull.tail))))
    exact .inl ⟨by omega, rfl, rfl⟩
  · have hm0 : mayE off A.length i = 0 := by omega
    have hmo := mayE_ok hm0
    obtain ⟨I, rfl⟩ : ∃ I : Nat, i = (I : Int) := ⟨i.toNat, by omega⟩
    ((with_reducible refine Tri.skip (Tri.thenN (Tri.seq (Tri.seq (Tri.region ?_))))); (with_reducible apply Tri.op); rfl; (with_reducible apply o_move); rfl; rfl; (with_reducible apply Tri.op); rfl; (with_reducible apply o_nilCheck); rfl; rfl; (with_reducible apply Tri.op); rfl; (with_reducible apply o_fieldAddr); rfl; rfl; (with_reducible apply Tri.op); rfl; (with_reducible apply o_load); rfl; (repeat first | with_reducible exact Pull.head | apply Pull.tail); rfl; rfl; (with_reducible apply Tri.op); rfl; (with_reducible apply o_lenOwn); rfl; (repeat first | with_reducible exact Pull.head | apply Pull.tail); rfl; (with_reducible apply Tri.op); rfl; (with_reducible apply o_sub64); rfl; rfl; rfl; (omega); (with_reducible apply Tri.op); rfl; (with_reducible apply o_assign); rfl; rfl; (with_reducible refine Tri.nil (Tri.thenN (Tri.block ?_))))
    ((first | with_reducible apply Tri.loop (α := { k : Nat // k ≤ W.length ∧ lastW W (I : Int) W.length = lastW W (I : Int) k }) (m := fun x => x.1) (Lx := fun x => [(0, .pointer (some ⟨p, 0, none⟩)), (1, .int .i64 (I : Int)), (7, .int .i64 ((x.1 : Int) - 1))]) (Hx := fun x => [blk p 132 [.slice (some ⟨a, 0, none⟩) (A).length (A).length, vw, .bool off, .int .i64 till], blk a 5 (B8 (A)), own 139 2 vw (W).length (WL (W)), manyRd (WT (W)), Ex h0]) (x0 := ⟨W.length, Nat.le_refl _, rfl⟩) | with_reducible apply TriR.loop (α := { k : Nat // k ≤ W.length ∧ lastW W (I : Int) W.length = lastW W (I : Int) k }) (m := fun x => x.1) (Lx := fun x => [(0, .pointer (some ⟨p, 0, none⟩)), (1, .int .i64 (I : Int)), (7, .int .i64 ((x.1 : Int) - 1))]) (Hx := fun x => [blk p 132 [.slice (some ⟨a, 0, none⟩) (A).length (A).length, vw, .bool off, .int .i64 till], blk a 5 (B8 (A)), own 139 2 vw (W).length (WL (W)), manyRd (WT (W)), Ex h0]) (x0 := ⟨W.length, Nat.le_refl _, rfl⟩)); (case hL => ((try dsimp only); (repeat (first | exact trivial | refine And.intro (by rfl) ?_)))); (case hH => ((try dsimp only); apply St.all; (repeat first | exact Pulls.nil | (apply Pulls.cons; repeat first | with_reducible exact Pull.head | apply Pull.tail))))); (rintro ⟨k, hk, hl⟩ mx hmx; (try dsimp only at hmx ⊢))
    ((with_reducible refine Tri.seq (Tri.seq (Tri.region ?_))); (with_reducible apply Tri.op); rfl; (with_reducible apply o_move); rfl; rfl; (with_reducible apply Tri.op); rfl; (with_reducible apply o_geq); rfl; rfl; rfl; (with_reducible refine Tri.nil (Tri.thenN ?_)))
    ((first | with_reducible apply Tri.condD | with_reducible apply TriR.condD); (case hc => rfl); (all_goals intro hc))
    · obtain ⟨j, rfl⟩ : ∃ j, k = j + 1 := ⟨k - 1, by omega⟩
      have hj : j < W.length := by omega
      ((with_reducible refine Tri.skip (Tri.thenN (Tri.seq (Tri.block (Tri.seq (Tri.region ?_)))))); (with_reducible apply Tri.op); rfl; (with_reducible apply o_move); rfl; rfl; (with_reducible apply Tri.op); rfl; (with_reducible apply o_nilCheck); rfl; rfl; (with_reducible apply Tri.op); rfl; (with_reducible apply o_fieldAddr); rfl; rfl; (with_reducible apply Tri.op); rfl; (with_reducible apply o_load); rfl; (repeat first | with_reducible exact Pull.head | apply Pull.tail); rfl; rfl; (with_reducible apply Tri.op); rfl; (with_reducible apply o_move); rfl; rfl; (with_reducible apply Tri.op); rfl)
      ((with_reducible apply o_ixOwn (j := j)); (case hx => rfl); (case hy => rfl); (case p => (repeat first | with_reducible exact Pull.head | apply Pull.tail)); (case hj => omega); (case hlt => exact hj); (case hn => rfl))
      ((with_reducible apply Tri.op); rfl; (with_reducible apply o_fieldE); rfl; rfl; (with_reducible apply Tri.op); rfl)
      ((with_reducible apply o_loadOwn); (case hx => rfl); (case p => (repeat first | with_reducible exact Pull.head | apply Pull.tail)); (case hv => exact WL_get0 W j hj); (case hn => rfl))
      ((with_reducible apply Tri.op); rfl; (with_reducible apply o_move); rfl; rfl; (with_reducible apply Tri.op); rfl; (with_reducible apply o_eql); rfl; rfl; rfl; (with_reducible refine Tri.nil (Tri.thenN ?_)))
      ((first | with_reducible apply Tri.condD | with_reducible apply TriR.condD); (case hc => rfl); (all_goals intro hq))
      · ((with_reducible refine Tri.seq (Tri.region ?_)); (with_reducible apply Tri.op); rfl; (with_reducible apply o_move); rfl; rfl; (with_reducible apply Tri.op); rfl; (with_reducible apply o_nilCheck); rfl; rfl; (with_reducible apply Tri.op); rfl; (with_reducible apply o_fieldAddr); rfl; rfl; (with_reducible apply Tri.op); rfl; (with_reducible apply o_load); rfl; (repeat first | with_reducible exact Pull.head | apply Pull.tail); rfl; rfl; (with_reducible apply Tri.op); rfl; (with_reducible apply o_move); rfl; rfl; (with_reducible apply Tri.op); rfl)
        ((with_reducible apply o_ixOwn (j := j)); (case hx => rfl); (case hy => rfl); (case p => (repeat first | with_reducible exact Pull.head | apply Pull.tail)); (case hj => omega); (case hlt => exact hj); (case hn => rfl))
        ((with_reducible apply Tri.op); rfl; (with_reducible apply o_fieldE); rfl; rfl; (with_reducible apply Tri.op); rfl)
        ((with_reducible apply o_loadOwn); (case hx => rfl); (case p => (repeat first | with_reducible exact Pull.head | apply Pull.tail)); (case hv => exact WL_get1 W j hj); (case hn => rfl))
        ((with_reducible apply Tri.op); rfl)
        ((with_reducible apply o_callR (hs := bytes_Clone (W[j]'hj).v (W[j]'hj).b (by have := (hW.get hj).2; omega))); (case hargs => (repeat first | exact evs.nil | (apply evs.cons; case a => rfl))); (case hpre => exact rdw_many (by (repeat first | with_reducible exact Pull.head | apply Pull.tail)) (WT_mem W j hj)); (case hn => rfl))
        rintro v Hc rfl
        (try dsimp only [List.cons_append, List.nil_append])
        ((with_reducible apply Tri.op); rfl; (with_reducible apply o_assign); rfl; rfl; (with_reducible apply Tri.op); rfl; (with_reducible apply o_assign); rfl; rfl; (with_reducible refine Tri.nil (Tri.thenN (Tri.ret (Tri.blockR (Tri.thenR (Tri.thenR (Tri.blockR (Tri.thenR ?_)))))))))
        have e : readM A W (I : Int) = (W[j]'hj).b := by
          rw [readM, hl, lastW_hit hj hq]; rfl
        ((with_reducible apply Tri.eqA (A := own 5 1 v _ _) (B := own 5 1 v (readM A W (I : Int)).length (B8 (readM A W (I : Int))))); (case p => (repeat first | with_reducible exact Pull.head | apply Pull.tail)); (case e => (rw [e])))
        ((first | with_reducible apply Tri.fin | with_reducible apply Tri.finN); (case hr => rfl); (case h => (repeat (first | exact ResL.nil | (apply ResL.cons; (case a => (first | exact Res1.tmp rfl | (apply Res1.cell; rfl; (repeat first | with_reducible exact Pull.head | apply Pull.tail); rfl) | (apply Res1.agg; rfl; (repeat first | with_reducible exact Pull.head | apply Pull.tail); rfl; rfl))))))); (apply fin_R (Hn := [own 5 1 v (readM A W (I : Int)).length (B8 (readM A W (I : Int))), blk p 132 [.slice (some ⟨a, 0, none⟩) (A).length (A).length, vw, .bool off, .int .i64 till], blk a 5 (B8 (A)), own 139 2 vw (W).length (WL (W)), manyRd (WT (W))])); (case p => (repeat first | exact Pulls.nil | (apply Pulls.cons; repeat first | with_reducible exact Pull.head | apply Pull.tail))))
        exact .inr ⟨hm0, v, rfl, rfl⟩
      · ((with_reducible refine Tri.skip (Tri.blockN (Tri.thenN (Tri.region ?_)))); (with_reducible apply Tri.op); rfl; (with_reducible apply o_move); rfl; rfl; (with_reducible apply Tri.op); rfl; (with_reducible apply o_sub64); rfl; rfl; rfl; (omega); (with_reducible apply Tri.op); rfl; (with_reducible apply o_assign); rfl; rfl; (with_reducible refine Tri.nil (Tri.thenN ?_)))
        ((with_reducible apply Tri.seti 7 (((j : Int) - 1))); (case h => rfl); (case hi => omega))
        ((with_reducible apply Tri.again (y := ⟨j, by omega, by rw [hl, lastW_miss hj hq]⟩)); (case p => ((try dsimp only); (repeat first | exact Pulls.nil | (apply Pulls.cons; repeat first | with_reducible exact Pull.head | apply Pull.tail)))); (case hm => ((try dsimp only); omega)); (try dsimp only))
        (repeat (first | exact trivial | refine And.intro (by rfl) ?_))
    · obtain rfl : k = 0 := by omega
      have e : readM A W (I : Int) = (A.drop (I * 64)).take 64 := by
        rw [readM, hl]; rfl
      have hel : ((A.drop (I * 64)).take 64).length = 64 := by rw [List.length_take, List.length_drop]; omega
      ((with_reducible refine Tri.exit (Tri.thenE (Tri.thenE (Tri.blockE (Tri.thenN (Tri.seq (Tri.region ?_))))))); (with_reducible apply Tri.op); rfl; (with_reducible apply o_move); rfl; rfl; (with_reducible apply Tri.op); rfl; (with_reducible apply o_move); rfl; rfl; (with_reducible apply Tri.op); rfl)
      ((with_reducible apply o_callS (hs := disk_sector p a A.length I vw off till hA (by omega))); (case hargs => (repeat first | exact evs.nil | (apply evs.cons; case a => rfl))); (case p => (repeat first | exact Pulls.nil | (apply Pulls.cons; repeat first | with_reducible exact Pull.head | apply Pull.tail))); (case hn => rfl))
      rintro r2 H2 ⟨rfl, rfl⟩
      (try dsimp only [List.cons_append, List.nil_append])
      ((with_reducible apply Tri.op); rfl)
      ((with_reducible apply o_callR (hs := bytes_Clone (.slice (some ⟨a, I * 64, none⟩) 64 (A.length - I * 64)) ((A.drop (I * 64)).take 64) (by omega))); (case hargs => (repeat first | exact evs.nil | (apply evs.cons; case a => rfl))); (case hpre => (rw [hel]; exact rdw_blkAt (by (repeat first | with_reducible exact Pull.head | apply Pull.tail)) ⟨by omega, by omega⟩ (by rw [B8_length, hel, B8, B8, List.map_take, List.map_drop]))); (case hn => rfl))
      rintro v Hc rfl
      (try dsimp only [List.cons_append, List.nil_append])
      ((with_reducible apply Tri.op); rfl; (with_reducible apply o_assign); rfl; rfl; (with_reducible apply Tri.op); rfl; (with_reducible apply o_assign); rfl; rfl; (with_reducible refine Tri.nil (Tri.thenN (Tri.ret ?_))))
      ((with_reducible apply Tri.eqA (A := own 5 1 v _ _) (B := own 5 1 v (readM A W (I : Int)).length (B8 (readM A W (I : Int))))); (case p => (repeat first | with_reducible exact Pull.head | apply Pull.tail)); (case e => (rw [e])))
      ((first | with_reducible apply Tri.fin | with_reducible apply Tri.finN); (case hr => rfl); (case h => (repeat (first | exact ResL.nil | (apply ResL.cons; (case a => (first | exact Res1.tmp rfl | (apply Res1.cell; rfl; (repeat first | with_reducible exact Pull.head | apply Pull.tail); rfl) | (apply Res1.agg; rfl; (repeat first | with_reducible exact Pull.head | apply Pull.tail); rfl; rfl))))))); (apply fin_R (Hn := [own 5 1 v (readM A W (I : Int)).length (B8 (readM A W (I : Int))), blk p 132 [.slice (some ⟨a, 0, none⟩) (A).length (A).length, vw, .bool off, .int .i64 till], blk a 5 (B8 (A)), own 139 2 vw (W).length (WL (W)), manyRd (WT (W))])); (case p => (repeat first | exact Pulls.nil | (apply Pulls.cons; repeat first | with_reducible exact Pull.head | apply Pull.tail))))
      exact .inr ⟨hm0, v, rfl, rfl⟩
end Go.Proofs.Ytckdlfbbkemklaa
