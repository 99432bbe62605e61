/- disk: power goes in just the step that was said: the walk. -/
import Derived.Test.YtnekhjiigijpjaaDkWalk7
import Derived.Test.YtnekhjiigijpjaaGvLaw
namespace Go.Proofs.Ytnekhjiigijpjaa
open Go Go.RowKit Go.Gv
set_option linter.unusedVariables false
set_option linter.unusedSimpArgs false

theorem flush_len (A : List UInt8) (W : List WW) (N : Nat) (hA : A.length = N) (hW : WOk N W) : (flushM A W).length = N := flush_length W A hW hA
structure DfS (k : Nat) (m : Nat) where
  i : Nat
  le : i ≤ m
  A : List UInt8
  vw : Value
  W : List WW
  off : Bool
  till : Int
  hA : A.length = 2048
  ok : WOk 2048 W
  wl : W.length ≤ i
  h1 : i ≤ k → off = false ∧ till = (k : Int) - (i : Int)
  h2 : k < i → off = true ∧ till = -1
structure DfM (k : Nat) (i : Nat) where
  A : List UInt8
  vw : Value
  W : List WW
  off : Bool
  till : Int
  f : Int
  hA : A.length = 2048
  ok : WOk 2048 W
  wl : W.length ≤ i + 1
  h1 : i < k → f = 0 ∧ off = false ∧ till = (k : Int) - ((i + 1 : Nat) : Int)
  h2 : ¬ i < k → f = 2 ∧ off = true ∧ till = -1

set_option maxHeartbeats 4000000 in
theorem diskFails_walk (w : World) (steps : Int) (v : Value) (l : List Bool) (hr : RdW w v l.length (l.map .bool)) :
    Calls Try.prog 14 #[.int .i64 steps, v] w (Ret (LawR w)) := by
  have hlen := hr.le
  refine Calls.enter Try.func14 rfl rfl rfl (St.rebase w) ?_
  simp only [argSlots]
  ((with_reducible refine Tri.seq ?_); (with_reducible refine Tri.region ?_); ((with_reducible apply Tri.op); (case hg => rfl)); ((with_reducible apply o_assign); (case hx => rfl); (case hn => rfl)); (with_reducible refine Tri.nil ?_); (with_reducible refine Tri.thenN ?_); (with_reducible refine Tri.seq ?_); (with_reducible refine Tri.region ?_); ((with_reducible apply Tri.op); (case hg => rfl)))
  ((with_reducible apply o_callR (hs := disk_New 8 ⟨by omega, by omega⟩)); (case hargs => (repeat (first | exact evs.nil | (apply evs.cons; (case a => rfl))))); (case hpre => exact fun _ _ => trivial); (case hn => rfl))
  rintro r1 H1 ⟨p, a, rfl, rfl⟩
  (try dsimp only [List.cons_append, List.nil_append])
  obtain ⟨Z, hZ⟩ : ∃ Z, Z = List.replicate (8 * 256) (0 : UInt8) := ⟨_, rfl⟩
  have hZl : Z.length = 2048 := by rw [hZ, List.length_replicate]
  simp only [← hZ]
  obtain ⟨k, hk⟩ : ∃ k : Nat, (k : Int) = steps % 18446744073709551616 % 50 := ⟨(steps % 18446744073709551616 % 50).toNat, by omega⟩
  have hk50 : k < 50 := by omega
  (((with_reducible apply Tri.op); (case hg => rfl)); ((with_reducible apply o_move); (case hx => rfl); (case hn => rfl)); ((with_reducible apply Tri.op); (case hg => rfl)); ((with_reducible apply o_extract); (case hx => rfl); (case hv => rfl); (case hn => rfl)); ((with_reducible apply Tri.op); (case hg => rfl)); ((with_reducible apply o_extract); (case hx => rfl); (case hv => rfl); (case hn => rfl)); ((with_reducible apply Tri.op); (case hg => rfl)); ((with_reducible apply o_assign); (case hx => rfl); (case hn => rfl)); ((with_reducible apply Tri.op); (case hg => rfl)); ((with_reducible apply o_assign); (case hx => rfl); (case hn => rfl)); (with_reducible refine Tri.nil ?_); (with_reducible refine Tri.thenN ?_); (with_reducible refine Tri.seq ?_); (with_reducible refine Tri.region ?_); ((with_reducible apply Tri.op); (case hg => rfl)); ((with_reducible apply o_move); (case hx => rfl); (case hn => rfl)); ((with_reducible apply Tri.op); (case hg => rfl)); ((with_reducible apply o_conv64); (case hx => rfl); (case hn => rfl)); ((with_reducible apply Tri.op); (case hg => rfl)); ((with_reducible apply o_rem); (case hx => rfl); (case hy => rfl); (case hn => rfl); (case hi => omega); (case hj => omega)); ((with_reducible apply Tri.op); (case hg => rfl)); ((with_reducible apply o_convI); (case hx => rfl); (case hn => rfl); (case hw => first | decide | (exact wrap_i64 (by omega)) | (exact wrap_u8 (by omega)) | (exact wrap_u16 (by omega)) | (exact wrap_u32 (by omega)) | (exact wrap_u64 (by omega)))); ((with_reducible apply Tri.op); (case hg => rfl)); ((with_reducible apply o_assign); (case hx => rfl); (case hn => rfl)); (with_reducible refine Tri.nil ?_); (with_reducible refine Tri.thenN ?_); (with_reducible refine Tri.seq ?_); (with_reducible refine Tri.region ?_); ((with_reducible apply Tri.op); (case hg => rfl)); ((with_reducible apply o_move); (case hx => rfl); (case hn => rfl)); ((with_reducible apply Tri.op); (case hg => rfl)); ((with_reducible apply o_move); (case hx => rfl); (case hn => rfl)); ((with_reducible apply Tri.op); (case hg => rfl)))
  ((with_reducible apply Tri.seti 7 ((k : Int))); (case h => rfl); (case hi => omega))
  ((with_reducible apply Tri.seti 19 ((k : Int))); (case h => rfl); (case hi => omega))
  ((with_reducible apply o_callS (hs := disk_Fail p (.slice (some ⟨a, 0, none⟩) Z.length Z.length) (.slice none 0 0) (-1) k)); (case hargs => (repeat (first | exact evs.nil | (apply evs.cons; (case a => rfl))))); (case p => (repeat (first | exact Pulls.nil | (apply Pulls.cons; (case a => (first | ((repeat (first | with_reducible exact Gv.Pull.head | with_reducible apply Gv.Pull.tail)); done) | (repeat (first | exact Gv.Pull.head | apply Gv.Pull.tail)))))))); (case hn => rfl))
  rintro r2 H2 rfl
  (try dsimp only [List.cons_append, List.nil_append])
  ((with_reducible apply Tri.eqA (A := blk p _ _) (B := blk p 108 [.slice (some ⟨a, 0, none⟩) Z.length Z.length, .slice none 0 0, .bool false, .int .i64 (k : Int)])); (case p => (first | ((repeat (first | with_reducible exact Pull.head | with_reducible apply Pull.tail)); done) | (repeat (first | exact Pull.head | apply Pull.tail)))); (case e => (rw [show max (k : Int) (-1) = (k : Int) by omega])))
  ((with_reducible refine Tri.nil ?_); (with_reducible refine Tri.thenN ?_); (with_reducible refine Tri.seq ?_); (with_reducible refine Tri.seq ?_); (with_reducible refine Tri.region ?_); ((with_reducible apply Tri.op); (case hg => rfl)); ((with_reducible apply o_assign); (case hx => rfl); (case hn => rfl)); (with_reducible refine Tri.nil ?_); (with_reducible refine Tri.thenN ?_); (with_reducible refine Tri.block ?_))
  ((with_reducible apply Tri.loop (α := DfS k (min l.length 60)) (m := fun x => min l.length 60 - x.i) (Lx := fun x => [(1, v), (5, .pointer (some ⟨p, 0, none⟩)), (6, .int .i64 0), (7, .int .i64 (k : Int)), (8, .int .i64 (x.i : Int))]) (Hx := fun x => [blk p 108 [.slice (some ⟨a, 0, none⟩) (x.A).length (x.A).length, x.vw, .bool x.off, .int .i64 x.till], blk a 5 (B8 (x.A)), own 111 2 x.vw (x.W).length (WL (x.W)), manyRd (WT (x.W)), Ex (hp w)]) (x0 := ⟨0, Nat.zero_le _, Z, .slice none 0 0, [], false, k, hZl, WOk.nil _, Nat.le_refl _, fun _ => ⟨rfl, by omega⟩, fun h => absurd h (Nat.not_lt_zero _)⟩)); (case hL => ((try dsimp only); (repeat (first | exact trivial | refine And.intro (by rfl) ?_)))); (case hH => ((try dsimp only); apply St.all; (repeat (first | exact Pulls.nil | (apply Pulls.cons; (case a => (first | ((repeat (first | with_reducible exact Gv.Pull.head | with_reducible apply Gv.Pull.tail)); done) | (repeat (first | exact Gv.Pull.head | apply Gv.Pull.tail)))))))))); (rintro ⟨i, hi, A, vw, W, off, till, hA, hW, hwl, h1, h2⟩ mx hmx; (try dsimp only at hmx ⊢))
  have hW' : WOk A.length W := by rw [hA]; exact hW
  have htb : -1 ≤ till ∧ till ≤ 9223372036854775807 := by
    by_cases h : i ≤ k
    · have := (h1 h).2; omega
    · have := (h2 (by omega)).2; omega
  ((with_reducible refine Tri.seq ?_); (with_reducible refine Tri.seq ?_); (with_reducible refine Tri.region ?_); ((with_reducible apply Tri.op); (case hg => rfl)); ((with_reducible apply o_move); (case hx => rfl); (case hn => rfl)); ((with_reducible apply Tri.op); (case hg => rfl)); ((with_reducible apply o_move); (case hx => rfl); (case hn => rfl)); ((with_reducible apply Tri.op); (case hg => rfl)))
  ((with_reducible apply o_lenRd (hr := hr)); (case hx => rfl); (case hn => rfl))
  (((with_reducible apply Tri.op); (case hg => rfl)); ((with_reducible apply o_lss); (case hx => rfl); (case hy => rfl); (case hn => rfl)); ((with_reducible apply Tri.op); (case hg => rfl)); ((with_reducible apply o_move); (case hx => rfl); (case hn => rfl)))
  ((with_reducible apply Tri.casesB 25); (case h => rfl); (all_goals intro hd1))
  · have hd1' := of_decide_eq_true hd1
    have hil : i < l.length := by omega
    have hget : (l.map Value.bool)[i]? = some (.bool (l[i]'hil)) := by simp [hil]
    (((with_reducible apply Tri.opYes); (case hg => rfl); (case hy => rfl); (case hb => with_reducible rfl)); ((with_reducible apply o_move); (case hx => rfl); (case hn => rfl)); ((with_reducible apply Tri.opYes); (case hg => rfl); (case hy => rfl); (case hb => with_reducible rfl)); ((with_reducible apply o_lss); (case hx => rfl); (case hy => rfl); (case hn => rfl)); ((with_reducible apply Tri.op); (case hg => rfl)); ((with_reducible apply o_pickT); (case hc => rfl); (case hb => with_reducible rfl); (case hx => rfl); (case hn => rfl)); (with_reducible refine Tri.nil ?_); (with_reducible refine Tri.thenN ?_))
    ((with_reducible apply Tri.condD); (case hc => rfl); (all_goals intro hd2))
    · ((with_reducible refine Tri.skip ?_); (with_reducible refine Tri.thenN ?_); (with_reducible refine Tri.seq ?_); (with_reducible refine Tri.block ?_); (with_reducible refine Tri.seq ?_); (with_reducible refine Tri.seq ?_); (with_reducible refine Tri.region ?_); ((with_reducible apply Tri.op); (case hg => rfl)); ((with_reducible apply o_move); (case hx => rfl); (case hn => rfl)); ((with_reducible apply Tri.op); (case hg => rfl)))
      ((with_reducible apply o_callR (hs := law01_full 1)); (case hargs => (repeat (first | exact evs.nil | (apply evs.cons; (case a => rfl))))); (case hpre => exact fun _ _ => trivial); (case hn => rfl))
      rintro vf H3 rfl
      (try dsimp only [List.cons_append, List.nil_append])
      obtain ⟨B, hB⟩ : ∃ B, B = List.replicate 64 (1 : UInt8) := ⟨_, rfl⟩
      have hBl : B.length = 64 := by rw [hB, List.length_replicate]
      rw [← hB]
      refine Tri.shut (e := 5) (size := 1) (v := vf) (by (first | ((repeat (first | with_reducible exact Pull.head | with_reducible apply Pull.tail)); done) | (repeat (first | exact Pull.head | apply Pull.tail)))) (fun g1 ho => ?_)
      have hrf : Rd g1 vf B.length (B8 B) := by rw [hBl]; exact own_Rd ho
      have hm99 : mayE off A.length 99 ≠ 0 := by
        unfold mayE; rw [hA]
        split
        · omega
        · rw [if_pos (by omega)]; omega
      (((with_reducible apply Tri.op); (case hg => rfl)))
      ((with_reducible apply o_callS (hs := disk_Write_no p a vw A W off till 99 vf B g1 hrf (by omega) (by omega) htb hm99)); (case hargs => (repeat (first | exact evs.nil | (apply evs.cons; (case a => rfl))))); (case p => (repeat (first | exact Pulls.nil | (apply Pulls.cons; (case a => (first | ((repeat (first | with_reducible exact Gv.Pull.head | with_reducible apply Gv.Pull.tail)); done) | (repeat (first | exact Gv.Pull.head | apply Gv.Pull.tail)))))))); (case hn => rfl))
      rintro r4 H4 ⟨rfl, rfl⟩
      (try dsimp only [List.cons_append, List.nil_append])
      (((with_reducible apply Tri.op); (case hg => rfl)); ((with_reducible apply o_eql); (case hx => rfl); (case hy => rfl); (case hn => rfl)); (with_reducible refine Tri.nil ?_); (with_reducible refine Tri.thenN ?_))
      ((with_reducible apply Tri.setb 34 (false)); (case h => rfl); (case hi => (exact decide_eq_false (by omega))))
      (((with_reducible apply Tri.condF); (case hc => rfl); (case hb => with_reducible rfl)); (with_reducible refine Tri.skip ?_); (with_reducible refine Tri.thenN ?_))
      (with_reducible refine Tri.seq ?_)
      ((with_reducible refine Tri.region ?_); ((with_reducible apply Tri.op); (case hg => rfl)); ((with_reducible apply o_assign); (case hx => rfl); (case hn => rfl)); (with_reducible refine Tri.nil ?_); (with_reducible refine Tri.thenN ?_))
      ((with_reducible apply Tri.seqMeet (α := DfM k i) (Lx := fun x => [(1, v), (5, .pointer (some ⟨p, 0, none⟩)), (6, .int .i64 0), (7, .int .i64 (k : Int)), (8, .int .i64 (i : Int)), (9, .int .i64 x.f)]) (Hx := fun x => [blk p 108 [.slice (some ⟨a, 0, none⟩) (x.A).length (x.A).length, x.vw, .bool x.off, .int .i64 x.till], blk a 5 (B8 (x.A)), own 111 2 x.vw (x.W).length (WL (x.W)), manyRd (WT (x.W)), Ex (hp w)])); rotate_left; (rintro ⟨A', vw', W', off', till', f, hA', hW2, hwl', h1', h2'⟩; (try dsimp only)); rotate_left)
      · ((with_reducible refine Tri.seq ?_); (with_reducible refine Tri.region ?_); ((with_reducible apply Tri.op); (case hg => rfl)); ((with_reducible apply o_move); (case hx => rfl); (case hn => rfl)); ((with_reducible apply Tri.op); (case hg => rfl)); ((with_reducible apply o_move); (case hx => rfl); (case hn => rfl)); ((with_reducible apply Tri.op); (case hg => rfl)))
        ((with_reducible apply o_ixRd (hr := hr)); (case hx => rfl); (case hy => rfl); (case hj => first | rfl | exact (Int.toNat_of_nonneg (by omega)).symm); (case hlt => first | omega | assumption); (case hl => (rw [List.length_map]; omega)); (case hn => rfl))
        (((with_reducible apply Tri.op); (case hg => rfl)))
        ((with_reducible apply o_loadRd (hr := hr)); (case hx => rfl); (case p => (first | ((repeat (first | with_reducible exact Pull.head | with_reducible apply Pull.tail)); done) | (repeat (first | exact Pull.head | apply Pull.tail)))); (case hv => exact (by rw [Nat.mul_one]; exact hget)); (case hn => rfl))
        ((with_reducible refine Tri.nil ?_); (with_reducible refine Tri.thenN ?_))
        ((with_reducible apply Tri.cond); (case hc => rfl); (all_goals intro hfl))
        · ((with_reducible refine Tri.region ?_); ((with_reducible apply Tri.op); (case hg => rfl)); ((with_reducible apply o_move); (case hx => rfl); (case hn => rfl)); ((with_reducible apply Tri.op); (case hg => rfl)))
          ((with_reducible apply o_callS (hs := disk_Flush p a vw A W off till (by omega) hW' (by omega) htb)); (case hargs => (repeat (first | exact evs.nil | (apply evs.cons; (case a => rfl))))); (case p => (repeat (first | exact Pulls.nil | (apply Pulls.cons; (case a => (first | ((repeat (first | with_reducible exact Gv.Pull.head | with_reducible apply Gv.Pull.tail)); done) | (repeat (first | exact Gv.Pull.head | apply Gv.Pull.tail)))))))); (case hn => rfl))
          rintro r5 H5 h5
          rcases h5 with ⟨q1, rfl, rfl⟩ | ⟨q1, q2, rfl, rfl⟩ | ⟨q1, q2, rfl, rfl⟩
          · have hni : k < i := by
              apply Nat.lt_of_not_le; intro h
              have := (h1 h).1; rw [q1] at this; cases this
            (try dsimp only [List.cons_append, List.nil_append])
            (((with_reducible apply Tri.op); (case hg => rfl)); ((with_reducible apply o_assign); (case hx => rfl); (case hn => rfl)); (with_reducible refine Tri.nil ?_); (with_reducible refine Tri.thenN ?_))
            ((with_reducible apply Tri.reach (y := ⟨A, vw, W, off, till, 2, hA, hW, by omega, fun h => by omega, fun h => ⟨rfl, (h2 hni).1, (h2 hni).2⟩⟩)); (case hL => ((try dsimp only); (repeat (first | exact trivial | refine And.intro (by rfl) ?_)))); (case p => ((try dsimp only); (repeat (first | exact Pulls.nil | (apply Pulls.cons; (case a => (first | ((repeat (first | with_reducible exact Gv.Pull.head | with_reducible apply Gv.Pull.tail)); done) | (repeat (first | exact Gv.Pull.head | apply Gv.Pull.tail))))))))))
          · have hni : i = k := by
              by_cases h : i ≤ k
              · have := (h1 h).2; omega
              · have := (h2 (by omega)).1; rw [q1] at this; cases this
            (try dsimp only [List.cons_append, List.nil_append])
            (((with_reducible apply Tri.op); (case hg => rfl)); ((with_reducible apply o_assign); (case hx => rfl); (case hn => rfl)); (with_reducible refine Tri.nil ?_); (with_reducible refine Tri.thenN ?_))
            ((with_reducible apply Tri.reach (y := ⟨A, vw, W, true, -1, 2, hA, hW, by omega, fun h => by omega, fun h => ⟨rfl, rfl, rfl⟩⟩)); (case hL => ((try dsimp only); (repeat (first | exact trivial | refine And.intro (by rfl) ?_)))); (case p => ((try dsimp only); (repeat (first | exact Pulls.nil | (apply Pulls.cons; (case a => (first | ((repeat (first | with_reducible exact Gv.Pull.head | with_reducible apply Gv.Pull.tail)); done) | (repeat (first | exact Gv.Pull.head | apply Gv.Pull.tail))))))))))
          · have hni : i < k := by
              by_cases h : i ≤ k
              · have := (h1 h).2; omega
              · have := (h2 (by omega)).1; rw [q1] at this; cases this
            have ht1 := (h1 (by omega)).2
            (try dsimp only [List.cons_append, List.nil_append])
            (((with_reducible apply Tri.op); (case hg => rfl)); ((with_reducible apply o_assign); (case hx => rfl); (case hn => rfl)); (with_reducible refine Tri.nil ?_); (with_reducible refine Tri.thenN ?_))
            ((with_reducible apply Tri.reach (y := ⟨flushM A W, .slice none 0 0, [], false, stopT till, 0, flush_len A W 2048 hA hW, WOk.nil _, by simp, fun h => ⟨rfl, rfl, by rw [stopT, if_neg q2]; omega⟩, fun h => absurd hni h⟩)); (case hL => ((try dsimp only); (repeat (first | exact trivial | refine And.intro (by rfl) ?_)))); (case p => ((try dsimp only); (repeat (first | exact Pulls.nil | (apply Pulls.cons; (case a => (first | ((repeat (first | with_reducible exact Gv.Pull.head | with_reducible apply Gv.Pull.tail)); done) | (repeat (first | exact Gv.Pull.head | apply Gv.Pull.tail))))))))))
        · obtain ⟨I, hI⟩ : ∃ I : Nat, I = i % 32 := ⟨_, rfl⟩
          have hI32 : I < 32 := by omega
          ((with_reducible refine Tri.region ?_); ((with_reducible apply Tri.op); (case hg => rfl)); ((with_reducible apply o_move); (case hx => rfl); (case hn => rfl)); ((with_reducible apply Tri.op); (case hg => rfl)); ((with_reducible apply o_move); (case hx => rfl); (case hn => rfl)); ((with_reducible apply Tri.op); (case hg => rfl)); ((with_reducible apply o_rem); (case hx => rfl); (case hy => rfl); (case hn => rfl); (case hi => omega); (case hj => omega)); ((with_reducible apply Tri.op); (case hg => rfl)); ((with_reducible apply o_move); (case hx => rfl); (case hn => rfl)); ((with_reducible apply Tri.op); (case hg => rfl)); ((with_reducible apply o_convI); (case hx => rfl); (case hn => rfl); (case hw => first | decide | (exact wrap_i64 (by omega)) | (exact wrap_u8 (by omega)) | (exact wrap_u16 (by omega)) | (exact wrap_u32 (by omega)) | (exact wrap_u64 (by omega)))); ((with_reducible apply Tri.op); (case hg => rfl)))
          ((with_reducible apply Tri.seti 43 ((I : Int))); (case h => rfl); (case hi => omega))
          ((with_reducible apply Tri.seti 45 (((UInt8.ofNat i).toNat : Int))); (case h => rfl); (case hi => (have : ((UInt8.ofNat i).toNat : Int) = (i : Int) % 256 := by { simp }; omega)))
          ((with_reducible apply o_callR (hs := law01_full (UInt8.ofNat i))); (case hargs => (repeat (first | exact evs.nil | (apply evs.cons; (case a => rfl))))); (case hpre => exact fun _ _ => trivial); (case hn => rfl))
          rintro vf2 H5 rfl
          (try dsimp only [List.cons_append, List.nil_append])
          obtain ⟨D, hD⟩ : ∃ D, D = List.replicate 64 (UInt8.ofNat i) := ⟨_, rfl⟩
          have hDl : D.length = 64 := by rw [hD, List.length_replicate]
          rw [← hD]
          refine Tri.shut (e := 5) (size := 1) (v := vf2) (by (first | ((repeat (first | with_reducible exact Pull.head | with_reducible apply Pull.tail)); done) | (repeat (first | exact Pull.head | apply Pull.tail)))) (fun g2 ho2 => ?_)
          have hrf2 : Rd g2 vf2 D.length (B8 D) := by rw [hDl]; exact own_Rd ho2
          (((with_reducible apply Tri.op); (case hg => rfl)))
          ((with_reducible apply o_callS (hs := disk_Write p a vw A W off till I vf2 D g2 hrf2 (by omega) (by omega) htb)); (case hargs => (repeat (first | exact evs.nil | (apply evs.cons; (case a => rfl))))); (case p => (repeat (first | exact Pulls.nil | (apply Pulls.cons; (case a => (first | ((repeat (first | with_reducible exact Gv.Pull.head | with_reducible apply Gv.Pull.tail)); done) | (repeat (first | exact Gv.Pull.head | apply Gv.Pull.tail)))))))); (case hn => rfl))
          rintro r6 H6 h6
          rcases h6 with ⟨q1, rfl, rfl⟩ | ⟨q1, q2, rfl, rfl⟩ | ⟨q1, q2, q3, rfl, rfl⟩ | ⟨q1, q2, q3, rfl, vw2, vc, rfl⟩
          · have hoff : off = true := by
              cases off
              · exact absurd (mayE_yes (N := A.length) (i := I) (by omega)) q1
              · rfl
            have hni : k < i := by
              apply Nat.lt_of_not_le; intro h
              have := (h1 h).1; rw [hoff] at this; cases this
            have hm2 : mayE off A.length (I : Int) = 2 := by rw [mayE, hoff]; rfl
            (try dsimp only [List.cons_append, List.nil_append])
            (((with_reducible apply Tri.op); (case hg => rfl)); ((with_reducible apply o_assign); (case hx => rfl); (case hn => rfl)); (with_reducible refine Tri.nil ?_); (with_reducible refine Tri.thenN ?_))
            ((with_reducible apply Tri.seti 9 ((2 : Int))); (case h => rfl); (case hi => (rw [hm2]; rfl)))
            ((with_reducible apply Tri.reach (y := ⟨A, vw, W, off, till, 2, hA, hW, by omega, fun h => by omega, fun h => ⟨rfl, (h2 hni).1, (h2 hni).2⟩⟩)); (case hL => ((try dsimp only); (repeat (first | exact trivial | refine And.intro (by rfl) ?_)))); (case p => ((try dsimp only); (repeat (first | exact Pulls.nil | (apply Pulls.cons; (case a => (first | ((repeat (first | with_reducible exact Gv.Pull.head | with_reducible apply Gv.Pull.tail)); done) | (repeat (first | exact Gv.Pull.head | apply Gv.Pull.tail))))))))))
          · exact absurd hDl q2
          · have hoff := (mayE_ok q1).1
            have hni : i = k := by
              by_cases h : i ≤ k
              · have := (h1 h).2; omega
              · have := (h2 (by omega)).1; rw [hoff] at this; cases this
            (try dsimp only [List.cons_append, List.nil_append])
            (((with_reducible apply Tri.op); (case hg => rfl)); ((with_reducible apply o_assign); (case hx => rfl); (case hn => rfl)); (with_reducible refine Tri.nil ?_); (with_reducible refine Tri.thenN ?_))
            ((with_reducible apply Tri.reach (y := ⟨A, vw, W, true, -1, 2, hA, hW, by omega, fun h => by omega, fun h => ⟨rfl, rfl, rfl⟩⟩)); (case hL => ((try dsimp only); (repeat (first | exact trivial | refine And.intro (by rfl) ?_)))); (case p => ((try dsimp only); (repeat (first | exact Pulls.nil | (apply Pulls.cons; (case a => (first | ((repeat (first | with_reducible exact Gv.Pull.head | with_reducible apply Gv.Pull.tail)); done) | (repeat (first | exact Gv.Pull.head | apply Gv.Pull.tail))))))))))
          · have hoff := (mayE_ok q1).1
            have hni : i < k := by
              by_cases h : i ≤ k
              · have := (h1 h).2; omega
              · have := (h2 (by omega)).1; rw [hoff] at this; cases this
            have ht1 := (h1 (by omega)).2
            (try dsimp only [List.cons_append, List.nil_append])
            (((with_reducible apply Tri.op); (case hg => rfl)); ((with_reducible apply o_assign); (case hx => rfl); (case hn => rfl)); (with_reducible refine Tri.nil ?_); (with_reducible refine Tri.thenN ?_))
            ((with_reducible apply Tri.reach (y := ⟨A, vw2, W ++ [(⟨I, vc, D⟩ : WW)], off, stopT till, 0, hA, hW.add (by omega) hDl, by simp; omega, fun h => ⟨rfl, hoff, by rw [stopT, if_neg q3]; omega⟩, fun h => absurd hni h⟩)); (case hL => ((try dsimp only); (repeat (first | exact trivial | refine And.intro (by rfl) ?_)))); (case p => ((try dsimp only); (repeat (first | exact Pulls.nil | (apply Pulls.cons; (case a => (first | ((repeat (first | with_reducible exact Gv.Pull.head | with_reducible apply Gv.Pull.tail)); done) | (repeat (first | exact Gv.Pull.head | apply Gv.Pull.tail))))))))))
      · ((with_reducible refine Tri.seq ?_); (with_reducible refine Tri.region ?_); ((with_reducible apply Tri.op); (case hg => rfl)); ((with_reducible apply o_move); (case hx => rfl); (case hn => rfl)); ((with_reducible apply Tri.op); (case hg => rfl)); ((with_reducible apply o_eql); (case hx => rfl); (case hy => rfl); (case hn => rfl)); ((with_reducible apply Tri.op); (case hg => rfl)); ((with_reducible apply o_move); (case hx => rfl); (case hn => rfl)); ((with_reducible apply Tri.op); (case hg => rfl)); ((with_reducible apply o_move); (case hx => rfl); (case hn => rfl)); ((with_reducible apply Tri.op); (case hg => rfl)); ((with_reducible apply o_lss); (case hx => rfl); (case hy => rfl); (case hn => rfl)); ((with_reducible apply Tri.op); (case hg => rfl)); ((with_reducible apply o_neqB); (case hx => rfl); (case hy => rfl); (case hn => rfl)); ((with_reducible apply Tri.op); (case hg => rfl)); ((with_reducible apply o_move); (case hx => rfl); (case hn => rfl)))
        by_cases hik : i < k
        · obtain ⟨e1, e2, e3⟩ := h1' hik
          ((with_reducible apply Tri.setb 54 (false)); (case h => rfl); (case hi => (rw [decide_eq_true e1, decide_eq_true (by omega)]; rfl)))
          (((with_reducible apply Tri.opYes); (case hg => rfl); (case hy => rfl); (case hb => with_reducible rfl)); ((with_reducible apply o_move); (case hx => rfl); (case hn => rfl)); ((with_reducible apply Tri.opYes); (case hg => rfl); (case hy => rfl); (case hb => with_reducible rfl)))
          ((with_reducible apply o_callS (hs := disk_On p (.slice (some ⟨a, 0, none⟩) A'.length A'.length) vw' off' till')); (case hargs => (repeat (first | exact evs.nil | (apply evs.cons; (case a => rfl))))); (case p => (repeat (first | exact Pulls.nil | (apply Pulls.cons; (case a => (first | ((repeat (first | with_reducible exact Gv.Pull.head | with_reducible apply Gv.Pull.tail)); done) | (repeat (first | exact Gv.Pull.head | apply Gv.Pull.tail)))))))); (case hn => rfl))
          rintro r7 H7 ⟨rfl, rfl⟩
          (try dsimp only [List.cons_append, List.nil_append])
          (((with_reducible apply Tri.opYes); (case hg => rfl); (case hy => rfl); (case hb => with_reducible rfl)); ((with_reducible apply o_move); (case hx => rfl); (case hn => rfl)); ((with_reducible apply Tri.opYes); (case hg => rfl); (case hy => rfl); (case hb => with_reducible rfl)); ((with_reducible apply o_move); (case hx => rfl); (case hn => rfl)); ((with_reducible apply Tri.opYes); (case hg => rfl); (case hy => rfl); (case hb => with_reducible rfl)); ((with_reducible apply o_lss); (case hx => rfl); (case hy => rfl); (case hn => rfl)); ((with_reducible apply Tri.opYes); (case hg => rfl); (case hy => rfl); (case hb => with_reducible rfl)); ((with_reducible apply o_neqB); (case hx => rfl); (case hy => rfl); (case hn => rfl)); ((with_reducible apply Tri.op); (case hg => rfl)); ((with_reducible apply o_pickF); (case hc => rfl); (case hb => with_reducible rfl); (case hy => rfl); (case hn => rfl)); (with_reducible refine Tri.nil ?_); (with_reducible refine Tri.thenN ?_))
          ((with_reducible apply Tri.setb 61 (false)); (case h => rfl); (case hi => (rw [e2, decide_eq_true (by omega)]; rfl)))
          (((with_reducible apply Tri.condF); (case hc => rfl); (case hb => with_reducible rfl)); (with_reducible refine Tri.skip ?_); (with_reducible refine Tri.blockN ?_); (with_reducible refine Tri.thenN ?_); (with_reducible refine Tri.region ?_); ((with_reducible apply Tri.op); (case hg => rfl)); ((with_reducible apply o_move); (case hx => rfl); (case hn => rfl)); ((with_reducible apply Tri.op); (case hg => rfl)); ((with_reducible apply o_add64); (case hx => rfl); (case hy => rfl); (case hn => rfl); (case hb => omega)); ((with_reducible apply Tri.op); (case hg => rfl)); ((with_reducible apply o_assign); (case hx => rfl); (case hn => rfl)); (with_reducible refine Tri.nil ?_); (with_reducible refine Tri.thenN ?_))
          ((with_reducible apply Tri.again (y := ⟨i + 1, by omega, A', vw', W', off', till', hA', hW2, hwl', fun _ => ⟨e2, e3⟩, fun h => by omega⟩)); (case p => ((try dsimp only); (repeat (first | exact Pulls.nil | (apply Pulls.cons; (case a => (first | ((repeat (first | with_reducible exact Gv.Pull.head | with_reducible apply Gv.Pull.tail)); done) | (repeat (first | exact Gv.Pull.head | apply Gv.Pull.tail))))))))); (case hm => ((try dsimp only); omega)); (try dsimp only))
          (repeat (first | exact trivial | refine And.intro (by rfl) ?_))
        · obtain ⟨e1, e2, e3⟩ := h2' hik
          ((with_reducible apply Tri.setb 54 (false)); (case h => rfl); (case hi => (rw [decide_eq_false (by omega), decide_eq_false (by omega)]; rfl)))
          (((with_reducible apply Tri.opYes); (case hg => rfl); (case hy => rfl); (case hb => with_reducible rfl)); ((with_reducible apply o_move); (case hx => rfl); (case hn => rfl)); ((with_reducible apply Tri.opYes); (case hg => rfl); (case hy => rfl); (case hb => with_reducible rfl)))
          ((with_reducible apply o_callS (hs := disk_On p (.slice (some ⟨a, 0, none⟩) A'.length A'.length) vw' off' till')); (case hargs => (repeat (first | exact evs.nil | (apply evs.cons; (case a => rfl))))); (case p => (repeat (first | exact Pulls.nil | (apply Pulls.cons; (case a => (first | ((repeat (first | with_reducible exact Gv.Pull.head | with_reducible apply Gv.Pull.tail)); done) | (repeat (first | exact Gv.Pull.head | apply Gv.Pull.tail)))))))); (case hn => rfl))
          rintro r7 H7 ⟨rfl, rfl⟩
          (try dsimp only [List.cons_append, List.nil_append])
          (((with_reducible apply Tri.opYes); (case hg => rfl); (case hy => rfl); (case hb => with_reducible rfl)); ((with_reducible apply o_move); (case hx => rfl); (case hn => rfl)); ((with_reducible apply Tri.opYes); (case hg => rfl); (case hy => rfl); (case hb => with_reducible rfl)); ((with_reducible apply o_move); (case hx => rfl); (case hn => rfl)); ((with_reducible apply Tri.opYes); (case hg => rfl); (case hy => rfl); (case hb => with_reducible rfl)); ((with_reducible apply o_lss); (case hx => rfl); (case hy => rfl); (case hn => rfl)); ((with_reducible apply Tri.opYes); (case hg => rfl); (case hy => rfl); (case hb => with_reducible rfl)); ((with_reducible apply o_neqB); (case hx => rfl); (case hy => rfl); (case hn => rfl)); ((with_reducible apply Tri.op); (case hg => rfl)); ((with_reducible apply o_pickF); (case hc => rfl); (case hb => with_reducible rfl); (case hy => rfl); (case hn => rfl)); (with_reducible refine Tri.nil ?_); (with_reducible refine Tri.thenN ?_))
          ((with_reducible apply Tri.setb 61 (false)); (case h => rfl); (case hi => (rw [e2, decide_eq_false (by omega)]; rfl)))
          (((with_reducible apply Tri.condF); (case hc => rfl); (case hb => with_reducible rfl)); (with_reducible refine Tri.skip ?_); (with_reducible refine Tri.blockN ?_); (with_reducible refine Tri.thenN ?_); (with_reducible refine Tri.region ?_); ((with_reducible apply Tri.op); (case hg => rfl)); ((with_reducible apply o_move); (case hx => rfl); (case hn => rfl)); ((with_reducible apply Tri.op); (case hg => rfl)); ((with_reducible apply o_add64); (case hx => rfl); (case hy => rfl); (case hn => rfl); (case hb => omega)); ((with_reducible apply Tri.op); (case hg => rfl)); ((with_reducible apply o_assign); (case hx => rfl); (case hn => rfl)); (with_reducible refine Tri.nil ?_); (with_reducible refine Tri.thenN ?_))
          ((with_reducible apply Tri.again (y := ⟨i + 1, by omega, A', vw', W', off', till', hA', hW2, hwl', fun h => by omega, fun _ => ⟨e2, e3⟩⟩)); (case p => ((try dsimp only); (repeat (first | exact Pulls.nil | (apply Pulls.cons; (case a => (first | ((repeat (first | with_reducible exact Gv.Pull.head | with_reducible apply Gv.Pull.tail)); done) | (repeat (first | exact Gv.Pull.head | apply Gv.Pull.tail))))))))); (case hm => ((try dsimp only); omega)); (try dsimp only))
          (repeat (first | exact trivial | refine And.intro (by rfl) ?_))
    · ((with_reducible refine Tri.exit ?_); (with_reducible refine Tri.thenE ?_); (with_reducible refine Tri.thenE ?_); (with_reducible refine Tri.blockE ?_); (with_reducible refine Tri.thenN ?_); (with_reducible refine Tri.seq ?_); (with_reducible refine Tri.region ?_); ((with_reducible apply Tri.op); (case hg => rfl)))
      ((with_reducible apply o_callV (hs := law01_tears)); (case hargs => (repeat (first | exact evs.nil | (apply evs.cons; (case a => rfl))))); (case hpre => exact fun _ _ => trivial); (case hn => rfl))
      (((with_reducible apply Tri.op); (case hg => rfl)); ((with_reducible apply o_move); (case hx => rfl); (case hn => rfl)); ((with_reducible apply Tri.opYes); (case hg => rfl); (case hy => rfl); (case hb => with_reducible rfl)); ((with_reducible apply o_move); (case hx => rfl); (case hn => rfl)); ((with_reducible apply Tri.opYes); (case hg => rfl); (case hy => rfl); (case hb => with_reducible rfl)); ((with_reducible apply o_eql); (case hx => rfl); (case hy => rfl); (case hn => rfl)); ((with_reducible apply Tri.op); (case hg => rfl)); ((with_reducible apply o_pickT); (case hc => rfl); (case hb => with_reducible rfl); (case hx => rfl); (case hn => rfl)); ((with_reducible apply Tri.op); (case hg => rfl)); ((with_reducible apply o_assign); (case hx => rfl); (case hn => rfl)); (with_reducible refine Tri.nil ?_); (with_reducible refine Tri.thenN ?_); (with_reducible refine Tri.ret ?_))
      ((with_reducible apply Tri.setb 4 (true)); (case h => rfl); (case hi => rfl))
      (first | with_reducible apply Tri.fin | with_reducible apply Tri.finN)
      case hr => rfl
      case h => exact ResL.cons (Res1.tmp rfl) ResL.nil
      exact fin_law (F := []) w (by (repeat (first | exact Pulls.nil | (apply Pulls.cons; (case a => (first | ((repeat (first | with_reducible exact Gv.Pull.head | with_reducible apply Gv.Pull.tail)); done) | (repeat (first | exact Gv.Pull.head | apply Gv.Pull.tail)))))))) _ rfl
  · (((with_reducible apply Tri.opNo (c := false)); (case hg => rfl); (case hd => rfl); (case hn => rfl); (case hy => rfl); (case hb => with_reducible rfl); (case hc => rfl)); ((with_reducible apply Tri.opNo (c := false)); (case hg => rfl); (case hd => rfl); (case hn => rfl); (case hy => rfl); (case hb => with_reducible rfl); (case hc => rfl)); ((with_reducible apply Tri.op); (case hg => rfl)); ((with_reducible apply o_pickF); (case hc => rfl); (case hb => with_reducible rfl); (case hy => rfl); (case hn => rfl)); (with_reducible refine Tri.nil ?_); (with_reducible refine Tri.thenN ?_); ((with_reducible apply Tri.condF); (case hc => rfl); (case hb => with_reducible rfl)); (with_reducible refine Tri.exit ?_); (with_reducible refine Tri.thenE ?_); (with_reducible refine Tri.thenE ?_); (with_reducible refine Tri.blockE ?_); (with_reducible refine Tri.thenN ?_); (with_reducible refine Tri.seq ?_); (with_reducible refine Tri.region ?_); ((with_reducible apply Tri.op); (case hg => rfl)))
    ((with_reducible apply o_callV (hs := law01_tears)); (case hargs => (repeat (first | exact evs.nil | (apply evs.cons; (case a => rfl))))); (case hpre => exact fun _ _ => trivial); (case hn => rfl))
    (((with_reducible apply Tri.op); (case hg => rfl)); ((with_reducible apply o_move); (case hx => rfl); (case hn => rfl)); ((with_reducible apply Tri.opYes); (case hg => rfl); (case hy => rfl); (case hb => with_reducible rfl)); ((with_reducible apply o_move); (case hx => rfl); (case hn => rfl)); ((with_reducible apply Tri.opYes); (case hg => rfl); (case hy => rfl); (case hb => with_reducible rfl)); ((with_reducible apply o_eql); (case hx => rfl); (case hy => rfl); (case hn => rfl)); ((with_reducible apply Tri.op); (case hg => rfl)); ((with_reducible apply o_pickT); (case hc => rfl); (case hb => with_reducible rfl); (case hx => rfl); (case hn => rfl)); ((with_reducible apply Tri.op); (case hg => rfl)); ((with_reducible apply o_assign); (case hx => rfl); (case hn => rfl)); (with_reducible refine Tri.nil ?_); (with_reducible refine Tri.thenN ?_); (with_reducible refine Tri.ret ?_))
    ((with_reducible apply Tri.setb 4 (true)); (case h => rfl); (case hi => rfl))
    (first | with_reducible apply Tri.fin | with_reducible apply Tri.finN)
    case hr => rfl
    case h => exact ResL.cons (Res1.tmp rfl) ResL.nil
    exact fin_law (F := []) w (by (repeat (first | exact Pulls.nil | (apply Pulls.cons; (case a => (first | ((repeat (first | with_reducible exact Gv.Pull.head | with_reducible apply Gv.Pull.tail)); done) | (repeat (first | exact Gv.Pull.head | apply Gv.Pull.tail)))))))) _ rfl
end Go.Proofs.Ytnekhjiigijpjaa
