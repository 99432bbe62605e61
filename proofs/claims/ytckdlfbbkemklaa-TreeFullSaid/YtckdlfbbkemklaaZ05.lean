/- Texts of this claim, put together: NdWalk4, NdWalk5, NdWalk6. -/
import Derived.Test.YtckdlfbbkemklaaZ04
import Derived.Test.YtckdlfbbkemklaaZ01
section
/- node: Get, of inner nodes; has a node its bytes? -/
namespace Go.Proofs.Ytckdlfbbkemklaa
open Go Go.RowKit Go.Gv
set_option linter.unusedVariables false
set_option linter.unusedSimpArgs false

theorem ndL_len (a b c : Value) : (ndL a b c).length = 4 := rfl
theorem nd_one' (A B : Option Addr) (m c n d : Nat) : ∀ y ∈ ndL (.slice none 0 0) (.slice A m c) (.slice B n d), y.oneCell' = true := by
  intro y hy; simp [ndL] at hy; rcases hy with rfl | rfl | rfl | rfl <;> rfl
theorem nd_one (A : Option Addr) (c : Nat) (B : Option Addr) (d : Nat) : ∀ y ∈ ndL (.slice none 0 0) (.slice none 0 0) (.slice none 0 0), y.oneCell' = true := nd_one' none none 0 0 0 0
theorem keysG_succ (l : List UInt8) (i : Nat) : keysG l (i + 1) = keysG l i ++ [keyG l i] := by rw [keysG, List.range_succ, List.map_append]; rfl
theorem kidsG_succ (l : List UInt8) (i : Nat) : kidsG l (i + 1) = kidsG l i ++ [kidG l i] := by rw [kidsG, List.range_succ, List.map_append]; rfl
theorem KL_snoc (a : List KEY) (k : KEY) : KL (a ++ [k]) = KL a ++ keyL k := by simp [KL]
theorem NL_snoc (a : List Int) (k : Int) : NL (a ++ [k]) = NL a ++ [.int .i64 k] := by simp [NL]
theorem keysG_length (l : List UInt8) (i : Nat) : (keysG l i).length = i := by simp [keysG]
theorem kidsG_length (l : List UInt8) (i : Nat) : (kidsG l i).length = i := by simp [kidsG]
set_option maxHeartbeats 400000 in
theorem bytes_Equal2 (u v : Value) (a b : List UInt8) : SpecR Try.prog 90 #[u, v] (fun w => RdW w u a.length (B8 a) ∧ RdW w v b.length (B8 b)) (fun r H' => r = .bool (decide (a = b)) ∧ H' = []) := by
  refine SpecR.of (fun w hh => ?_)
  refine Calls.enter Try.func90 rfl rfl rfl (St.rebase w) ?_
  simp only [argSlots]
  (refine Tri.seq (Tri.region ?_); apply Tri.op; rfl; apply o_assign; rfl; rfl; refine Tri.nil (Tri.thenN (Tri.seq (Tri.region ?_))); apply Tri.op; rfl; apply o_move; rfl; rfl; apply Tri.op; rfl)
  (apply o_bytesStr (l := a); (case he => exact Try.underlying5); (case hx => rfl); (case hr => exact rdw_ex (by (with_reducible repeat constructor)) hh.1); (case hn => rfl))
  (apply Tri.op; rfl; apply o_move; rfl; rfl; apply Tri.op; rfl)
  (apply o_bytesStr (l := b); (case he => exact Try.underlying5); (case hx => rfl); (case hr => exact rdw_ex (by (with_reducible repeat constructor)) hh.2); (case hn => rfl))
  (apply Tri.op; rfl; apply o_eqlS; rfl; rfl; rfl; apply Tri.op; rfl; apply o_assign; rfl; rfl; refine Tri.nil (Tri.thenN (Tri.ret ?_)))
  (apply Tri.fin; (case hr => rfl); (case h => exact ResL.cons (Res1.tmp rfl) (ResL.nil)); (apply fin_R (Hn := [])); (case p => exact (by (repeat first | with_reducible constructor | constructor))); exact ⟨by simp only [tupled]; (rw [bytes_eq']), rfl⟩)
set_option maxHeartbeats 4000000 in
theorem node_Get_inner (v : Value) (l : List UInt8) : SpecR Try.prog 54 #[.bool false, v] (fun w => RdW w v l.length (B8 l)) (fun r H' => ∃ A c B d, r = .tuple #[ndV (.slice none 0 0) (.slice A (getI l).1.1.length c) (.slice B (getI l).1.2.length d), .int .i64 ((getI l).2 : Int)] ∧ H' = [own 98 2 (.slice A (getI l).1.1.length c) (getI l).1.1.length (KL (getI l).1.1), own 3 1 (.slice B (getI l).1.2.length d) (getI l).1.2.length (NL (getI l).1.2)]) := by
  refine SpecR.of (fun w hr => ?_)
  have hlen := hr.le
  obtain ⟨A0, c0, rfl, _⟩ := id hr
  refine Calls.enter Try.func54 rfl rfl rfl (St.rebase w) ?_
  simp only [argSlots]
  (refine Tri.seq (Tri.region ?_); apply Tri.op; rfl)
  (apply o_alloc; (case hn => rfl); intro b4)
  (apply Tri.op; rfl; apply o_assign; rfl; rfl; refine Tri.nil (Tri.thenN (Tri.seq (Tri.region ?_))); apply Tri.op; rfl; apply o_assign; rfl; rfl; refine Tri.nil (Tri.thenN (Tri.seq (Tri.seq (Tri.region ?_)))); apply Tri.op; rfl; apply o_move; rfl; rfl; refine Tri.nil (Tri.thenN ?_); apply Tri.condF; rfl; rfl; refine Tri.skip (Tri.thenN (Tri.seq (Tri.seq (Tri.region ?_)))); apply Tri.op; rfl; apply o_move; rfl; rfl; apply Tri.op; rfl; apply o_len; rfl; rfl; apply Tri.op; rfl; apply o_eql; rfl; rfl; rfl; apply Tri.op; rfl; apply o_move; rfl; rfl)
  ((with_reducible apply Tri.casesB 15); (case h => rfl); (all_goals intro h1))
  · have g1 := of_decide_eq_true h1
    have hg : getI l = (([], []), 3) := by rw [getI, if_pos (.inl (by omega))]
    ((iterate 10 apply Tri.opNo (c := true); (iterate 6 rfl)); apply Tri.op; rfl; apply o_pickT; (iterate 4 rfl); refine Tri.nil (Tri.thenN ?_); apply Tri.condT; rfl; rfl; refine Tri.seq (Tri.region ?_); apply Tri.op; rfl; apply o_build0; rfl; apply Tri.op; rfl)
    (apply o_storeAll (ys := ndL (.slice none 0 0) (.slice none 0 0) (.slice none 0 0)); (case hx => rfl); (case hy => rfl); (case p => (with_reducible repeat constructor)); (case hl => rfl); (case hc => rfl); (case h1 => exact nd_one none 0 none 0))
    (apply Tri.op; rfl; apply o_assign; rfl; rfl; refine Tri.nil (Tri.thenN (Tri.ret (Tri.thenR ?_))))
    (with_reducible apply Tri.ownNil 3 1)
    (with_reducible apply Tri.ownNil 98 2)
    rw [hg]
    (apply Tri.fin; (case hr => rfl); (case h => exact ResL.cons ((Res1.agg rfl (by (with_reducible repeat constructor)) (by rw [List.drop_zero]; exact List.take_of_length_le (Nat.le_of_eq (ndL_len (.slice none 0 0) (.slice none 0 0) (.slice none 0 0)))) (ndL_len (.slice none 0 0) (.slice none 0 0) (.slice none 0 0)))) (ResL.cons (Res1.tmp rfl) (ResL.nil))); (apply fin_R (Hn := [own 98 2 (.slice none 0 0) 0 [], own 3 1 (.slice none 0 0) 0 []])); (case p => exact (by (repeat first | with_reducible constructor | constructor))); exact ⟨none, 0, none, 0, rfl, rfl⟩)
  · have g1 := of_decide_eq_false h1
    have x0 := (l.getD 0 0).toNat_lt
    (apply Tri.opYes; rfl; rfl; rfl; apply o_move; rfl; rfl; apply Tri.opYes; rfl; rfl; rfl; apply o_len; rfl; rfl; apply Tri.opYes; rfl; rfl; rfl; apply o_move; rfl; rfl; apply Tri.opYes; rfl; rfl; rfl)
    (apply o_ixRd (hr := hr) (j := 0); (case hx => rfl); (case hy => rfl); (case hj => rfl); (case hlt => omega); (case hl => (rw [B8_length]; omega)); (case hn => rfl))
    (apply Tri.opYes; rfl; rfl; rfl)
    (apply o_loadRd (v := .int .u8 ((l.getD 0 0).toNat : Int)) (hr := hr); (case hx => rfl); (case p => (with_reducible repeat constructor)); (case hv => exact get_or' l 0 (by omega)); (case hn => rfl))
    (apply Tri.opYes; rfl; rfl; rfl; apply o_convI; rfl; rfl; (first | decide | (exact wrap_i64 (by omega)) | (exact wrap_u8 (by omega)) | (exact wrap_u16 (by omega)) | (exact wrap_u32 (by omega)) | (exact wrap_u64 (by omega))); apply Tri.opYes; rfl; rfl; rfl; apply o_move; rfl; rfl; apply Tri.opYes; rfl; rfl; rfl; apply o_mul64; rfl; rfl; rfl; (omega); apply Tri.opYes; rfl; rfl; rfl; apply o_add64; rfl; rfl; rfl; (omega); apply Tri.opYes; rfl; rfl; rfl; apply o_neq; rfl; rfl; rfl; apply Tri.op; rfl; apply o_pickF; (iterate 4 rfl); refine Tri.nil (Tri.thenN ?_))
    (apply Tri.condD; (case hc => rfl); (all_goals intro h2))
    · have hg : getI l = (([], []), 3) := by rw [getI, if_pos (.inr (by unfold cntG; omega))]
      (refine Tri.seq (Tri.region ?_); apply Tri.op; rfl; apply o_build0; rfl; apply Tri.op; rfl)
      (apply o_storeAll (ys := ndL (.slice none 0 0) (.slice none 0 0) (.slice none 0 0)); (case hx => rfl); (case hy => rfl); (case p => (with_reducible repeat constructor)); (case hl => rfl); (case hc => rfl); (case h1 => exact nd_one none 0 none 0))
      (apply Tri.op; rfl; apply o_assign; rfl; rfl; refine Tri.nil (Tri.thenN (Tri.ret (Tri.thenR ?_))))
      (with_reducible apply Tri.ownNil 3 1)
      (with_reducible apply Tri.ownNil 98 2)
      rw [hg]
      (apply Tri.fin; (case hr => rfl); (case h => exact ResL.cons ((Res1.agg rfl (by (with_reducible repeat constructor)) (by rw [List.drop_zero]; exact List.take_of_length_le (Nat.le_of_eq (ndL_len (.slice none 0 0) (.slice none 0 0) (.slice none 0 0)))) (ndL_len (.slice none 0 0) (.slice none 0 0) (.slice none 0 0)))) (ResL.cons (Res1.tmp rfl) (ResL.nil))); (apply fin_R (Hn := [own 98 2 (.slice none 0 0) 0 [], own 3 1 (.slice none 0 0) 0 []])); (case p => exact (by (repeat first | with_reducible constructor | constructor))); exact ⟨none, 0, none, 0, rfl, rfl⟩)
    · obtain ⟨n, hn⟩ : ∃ n, n = cntG l := ⟨_, rfl⟩
      have hn' : n = (l.getD 0 0).toNat := hn
      have hll : l.length = 1 + n * 14 := by omega
      (refine Tri.skip (Tri.thenN (Tri.seq (Tri.region ?_))); apply Tri.op; rfl; apply o_move; rfl; rfl; apply Tri.op; rfl)
      (apply o_build (ys := ndL (.slice none 0 0) (.slice none 0 0) (.slice none 0 0)); (case hp => (repeat first | exact pev.nil | (apply pev.cons; case a => rfl))); (case hf => rfl); (case hn => rfl))
      (apply Tri.op; rfl)
      (apply o_alloc; (case hn => rfl); intro b7)
      (apply Tri.op; rfl)
      (apply o_storeAll (ys := ndL (.slice none 0 0) (.slice none 0 0) (.slice none 0 0)); (case hx => rfl); (case hy => rfl); (case p => (with_reducible repeat constructor)); (case hl => rfl); (case hc => rfl); (case h1 => exact nd_one none 0 none 0))
      (refine Tri.nil (Tri.thenN (Tri.seq (Tri.region ?_))); apply Tri.op; rfl; apply o_move; rfl; rfl; apply Tri.op; rfl)
      (apply o_slice (lo := 1) (hi := l.length); (case hx => rfl); (case hr => exact rdw_ex (by (with_reducible repeat constructor)) hr); (case hol => first | exact fun _ _ => rfl | exact fun a ha => congrArg some (ha.eval rfl)); (case hoh => first | exact fun _ _ => rfl | exact fun a ha => congrArg some (ha.eval rfl)); (case hlo => first | exact .inr ⟨rfl, rfl⟩ | exact .inl ⟨_, rfl⟩ | exact .inl ⟨_, (by congr 2; omega)⟩); (case hhi => first | exact .inr ⟨rfl, rfl⟩ | exact .inl ⟨_, rfl⟩ | exact .inl ⟨_, (by congr 2; omega)⟩); (case hlh => omega); (case hhm => omega); (case hn => rfl))
      have hd1 := drop_rd hr 1 (by omega)
      obtain ⟨A1, c1, he, _⟩ := id hd1
      rw [he] at hd1
      ((with_reducible apply Tri.setv 31 ((.slice A1 (l.drop 1).length c1))); (case h => rfl); (case hv => exact he))
      (apply Tri.op; rfl)
      (apply o_build (ys := [.slice A1 (l.drop 1).length c1]); (case hp => (repeat first | exact pev.nil | (apply pev.cons; case a => rfl))); (case hf => rfl); (case hn => rfl))
      (apply Tri.op; rfl)
      (first | (apply o_boxA; (case hx => rfl); (case hn => rfl); intro b8) | (apply o_box1; (case hx => rfl); (case h1 => rfl); (case hn => rfl); intro b8))
      (apply Tri.op; rfl; apply o_assign; rfl; rfl; refine Tri.nil (Tri.thenN (Tri.seq (Tri.seq (Tri.region ?_)))); apply Tri.op; rfl; apply o_move; rfl; rfl; apply Tri.op; rfl)
      (apply o_ixRd (hr := hr) (j := 0); (case hx => rfl); (case hy => rfl); (case hj => rfl); (case hlt => omega); (case hl => (rw [B8_length]; omega)); (case hn => rfl))
      (apply Tri.op; rfl)
      (apply o_loadRd (v := .int .u8 ((l.getD 0 0).toNat : Int)) (hr := hr); (case hx => rfl); (case p => (with_reducible repeat constructor)); (case hv => exact get_or' l 0 (by omega)); (case hn => rfl))
      (apply Tri.op; rfl; apply o_convI; rfl; rfl; (first | decide | (exact wrap_i64 (by omega)) | (exact wrap_u8 (by omega)) | (exact wrap_u16 (by omega)) | (exact wrap_u32 (by omega)) | (exact wrap_u64 (by omega))); apply Tri.op; rfl; apply o_move; rfl; rfl; refine Tri.nil (Tri.thenN (Tri.block ?_)))
      (with_reducible apply Tri.ownNil 3 1)
      (with_reducible apply Tri.ownNil 98 2)
      ((with_reducible apply Tri.eqA (A := own 98 2 _ 0 []) (B := own 98 2 (.slice none 0 0) 0 (KL (keysG l 0)))); (case p => (with_reducible repeat constructor)); (case e => rfl))
      ((with_reducible apply Tri.eqA (A := own 3 1 _ 0 []) (B := own 3 1 (.slice none 0 0) 0 (NL (kidsG l 0)))); (case p => (with_reducible repeat constructor)); (case e => rfl))
      ((with_reducible apply Tri.seti 37 ((n : Int))); (case h => rfl); (case hi => (rw [hn'])))
      (apply Tri.loop (α := Σ' (i : Nat) (Ak : Option Addr) (ck : Nat) (Ad : Option Addr) (cd : Nat) (A1 : Option Addr) (c1 : Nat), i ≤ n ∧ Rd (hp w) (.slice A1 (l.drop (1 + i * 14)).length c1) (l.drop (1 + i * 14)).length (B8 (l.drop (1 + i * 14)))) (m := fun x => n - x.1) (Lx := fun x => [(0, .bool false), (1, .slice A0 l.length c0), (4, .pointer (some ⟨b4, 0, none⟩)), (7, .pointer (some ⟨b7, 0, none⟩)), (8, .pointer (some ⟨b8, 0, none⟩)), (37, .int .i64 (n : Int)), (38, .int .i64 (x.1 : Int))]) (Hx := fun x => [blk b4 33 [.bool false, .slice none 0 0, .slice none 0 0, .slice none 0 0], blk b7 33 (ndL (.slice none 0 0) (.slice x.2.1 x.1 x.2.2.1) (.slice x.2.2.2.1 x.1 x.2.2.2.2.1)), blk b8 179 [.slice x.2.2.2.2.2.1 (l.drop (1 + x.1 * 14)).length x.2.2.2.2.2.2.1], own 98 2 (.slice x.2.1 x.1 x.2.2.1) x.1 (KL (keysG l x.1)), own 3 1 (.slice x.2.2.2.1 x.1 x.2.2.2.2.1) x.1 (NL (kidsG l x.1)), Ex (hp w)]) (x0 := ⟨0, none, 0, none, 0, A1, c1, Nat.zero_le _, hd1⟩); (case hL => ((try dsimp only); (repeat (first | exact trivial | refine And.intro (by rfl) ?_)))); (case hH => ((try dsimp only); apply St.all; (repeat first | with_reducible constructor | constructor)))); (rintro ⟨i, Ak, ck, Ad, cd, A1, c1, hi, hu⟩ mx hmx; (try dsimp only at hmx ⊢))
      (refine Tri.seq (Tri.region ?_); apply Tri.op; rfl; apply o_lss; rfl; rfl; rfl; refine Tri.nil (Tri.thenN (Tri.seq ?_)))
      (apply Tri.condD; (case hc => rfl); (all_goals intro hc))
      · have hin : i < n := by omega
        have hkb : numB ((l.drop (13 + i * 14)).take 2) < 65536 := by
          have := numB_lt ((l.drop (13 + i * 14)).take 2)
          rw [show ((l.drop (13 + i * 14)).take 2).length = 2 by rw [List.length_take, List.length_drop]; omega] at this
          exact this
        have hkk : ((numB ((l.drop (1 + i * 14)).take 4) : Int), s64 (numB ((l.drop (1 + i * 14 + 4)).take 8))) = keyG l i := by rw [keyG, show 5 + i * 14 = 1 + i * 14 + 4 by omega]
        (refine Tri.skip (Tri.thenN ?_))
        refine Tri.seq ?_
        refine Tri.block ?_
        refine Tri.seq ?_
        refine Tri.seq ?_
        (refine Tri.region ?_; apply Tri.op; rfl; apply o_move; rfl; rfl; refine Tri.nil (Tri.thenN ?_); apply Tri.condF; rfl; rfl; refine Tri.skip (Tri.thenN ?_))
        (apply Tri.seqMeet (α := Σ' (A3 : Option Addr) (c3 : Nat) (A2 : Option Addr) (c2 : Nat), Rd (hp w) (.slice A2 (l.drop (13 + i * 14)).length c2) (l.drop (13 + i * 14)).length (B8 (l.drop (13 + i * 14)))) (Lx := fun x => [(0, .bool false), (1, .slice A0 l.length c0), (4, .pointer (some ⟨b4, 0, none⟩)), (7, .pointer (some ⟨b7, 0, none⟩)), (8, .pointer (some ⟨b8, 0, none⟩)), (37, .int .i64 (n : Int)), (38, .int .i64 (i : Int))]) (Hx := fun x => [blk b4 33 [.bool false, .slice none 0 0, .slice none 0 0, .slice none 0 0], blk b7 33 (ndL (.slice none 0 0) (.slice x.1 (i + 1) x.2.1) (.slice Ad i cd)), blk b8 179 [.slice x.2.2.1 (l.drop (13 + i * 14)).length x.2.2.2.1], own 98 2 (.slice x.1 (i + 1) x.2.1) (i + 1) (KL (keysG l (i + 1))), own 3 1 (.slice Ad i cd) i (NL (kidsG l i)), Ex (hp w)]); rotate_left; (rintro ⟨A3, c3, A2, c2, hr2⟩; (try dsimp only)); rotate_left)
        · ((first | with_reducible apply Tri.mix [Ex (hp w)] | (apply TriR.mix [Ex (hp w)]; (case hnd => rfl))); (case p => (repeat first | with_reducible constructor | constructor)); (dsimp only [List.length]))
          ((first | (apply TriM.q 0; rfl; rfl) | (apply TriM.qYes 0; rfl; rfl; rfl; with_reducible rfl)); kernel_rfl; rfl; rfl; (intro F K hK; apply o_fieldAddr; rfl; rfl; exact hK); (first | (apply TriM.q 2; rfl; rfl) | (apply TriM.qYes 2; rfl; rfl; rfl; with_reducible rfl)); kernel_rfl; rfl; rfl; (intro F K hK; apply o_move; rfl; rfl; exact hK))
          (apply TriM.a2 1 3; (case hoi => rfl); (case hoj => rfl); (case hgi => rfl); (case hgj => rfl); (case hr => kernel_rfl); (all_goals (try dsimp only [List.cons_append, List.nil_append])))
          · (apply o_load; (case hx => rfl); (case p => (with_reducible repeat constructor)); (case hv => rfl); (case hn => rfl))
            (apply TriM.back; (case p => (repeat first | with_reducible constructor | constructor)))
            (apply TriM.a 3; (case ho => rfl); (case hg => rfl); (case hr => kernel_rfl); (try dsimp only [List.cons_append, List.nil_append]))
            ((with_reducible apply o_callS (hs := node_key b8 (.slice A1 (l.drop (1 + i * 14)).length c1) (l.drop (1 + i * 14)) (hp w) hu (by rw [List.length_drop]; omega))); (case hargs => (repeat first | exact evs.nil | (apply evs.cons; case a => rfl))); (case p => (repeat first | with_reducible constructor | constructor)); (case hn => rfl))
            rintro x1 H1 ⟨rfl, A2, c2, hr2, rfl⟩
            simp only [List.drop_drop] at hr2 ⊢
            rw [show 1 + i * 14 + 12 = 13 + i * 14 by omega] at hr2 ⊢
            rw [hkk]
            (try dsimp only [List.cons_append, List.nil_append])
            (apply TriM.back; (case p => (repeat first | with_reducible constructor | constructor)))
            (apply TriM.a 4; (case ho => rfl); (case hg => rfl); (case hr => kernel_rfl); (try dsimp only [List.cons_append, List.nil_append]))
            (apply o_litSl (ys := keyL (keyG l i)); (case hp => (repeat first | exact pev.nil | (apply pev.cons; case a => rfl))); (case hm => rfl); (case hf => rfl); (case hn => rfl); intro vl)
            (apply TriM.back; (case p => (repeat first | with_reducible constructor | constructor)))
            (apply TriM.a 5; (case ho => rfl); (case hg => rfl); (case hr => kernel_rfl); (try dsimp only [List.cons_append, List.nil_append]))
            (apply o_append; (case hx => rfl); (case hy => rfl); (case p => (with_reducible repeat constructor)); (case hr => exact rdw_own (by (with_reducible repeat constructor))); (case hl => rfl); (case h1 => exact keyL_one _); (case hb => omega); (case hn => rfl))
            intro kv2
            (refine Tri.shape (e := 98) (size := 2) (v := kv2) (by (with_reducible repeat constructor)) ?_; rintro ⟨A3, c3, rfl⟩)
            (apply TriM.back; (case p => (repeat first | with_reducible constructor | constructor)))
            ((first | (apply TriM.q 6; rfl; rfl) | (apply TriM.qYes 6; rfl; rfl; rfl; with_reducible rfl)); kernel_rfl; rfl; rfl; (intro F K hK; apply o_fieldAddr; rfl; rfl; exact hK))
            (apply TriM.a 7; (case ho => rfl); (case hg => rfl); (case hr => kernel_rfl); (try dsimp only [List.cons_append, List.nil_append]))
            (apply o_store; (case hx => rfl); (case hy => rfl); (case h1 => rfl); (case p => (with_reducible repeat constructor)); (case hi => (show 2 < 4; omega)))
            (apply TriM.back; (case p => (repeat first | with_reducible constructor | constructor)))
            (apply TriM.nil; (case hr => kernel_rfl); (try dsimp only [List.cons_append, List.nil_append]))
            (refine Tri.thenN ?_)
            ((with_reducible apply Tri.eqA (A := own 98 2 (.slice A3 _ c3) _ _) (B := own 98 2 (.slice A3 (i + 1) c3) (i + 1) (KL (keysG l (i + 1))))); (case p => (with_reducible repeat constructor)); (case e => (rw [keysG_succ, KL_snoc])))
            (apply Tri.reach (y := ⟨A3, c3, A2, c2, hr2⟩); (case hL => ((try dsimp only); (repeat (first | exact trivial | refine And.intro (by rfl) ?_)))); (case p => ((try dsimp only); (repeat (first | exact Pulls.nil | (apply Pulls.cons; (case a => (first | ((repeat (first | with_reducible exact Gv.Pull.head | with_reducible apply Gv.Pull.tail)); done) | (repeat (first | exact Gv.Pull.head | apply Gv.Pull.tail))))))))))
          · ((with_reducible apply o_callS (hs := node_key b8 (.slice A1 (l.drop (1 + i * 14)).length c1) (l.drop (1 + i * 14)) (hp w) hu (by rw [List.length_drop]; omega))); (case hargs => (repeat first | exact evs.nil | (apply evs.cons; case a => rfl))); (case p => (repeat first | with_reducible constructor | constructor)); (case hn => rfl))
            rintro x1 H1 ⟨rfl, A2, c2, hr2, rfl⟩
            simp only [List.drop_drop] at hr2 ⊢
            rw [show 1 + i * 14 + 12 = 13 + i * 14 by omega] at hr2 ⊢
            rw [hkk]
            (try dsimp only [List.cons_append, List.nil_append])
            (apply TriM.back; (case p => (repeat first | with_reducible constructor | constructor)))
            (apply TriM.a2 1 4; (case hoi => rfl); (case hoj => rfl); (case hgi => rfl); (case hgj => rfl); (case hr => kernel_rfl); (all_goals (try dsimp only [List.cons_append, List.nil_append])))
            · (apply o_load; (case hx => rfl); (case p => (with_reducible repeat constructor)); (case hv => rfl); (case hn => rfl))
              (apply TriM.back; (case p => (repeat first | with_reducible constructor | constructor)))
              (apply TriM.a 4; (case ho => rfl); (case hg => rfl); (case hr => kernel_rfl); (try dsimp only [List.cons_append, List.nil_append]))
              (apply o_litSl (ys := keyL (keyG l i)); (case hp => (repeat first | exact pev.nil | (apply pev.cons; case a => rfl))); (case hm => rfl); (case hf => rfl); (case hn => rfl); intro vl)
              (apply TriM.back; (case p => (repeat first | with_reducible constructor | constructor)))
              (apply TriM.a 5; (case ho => rfl); (case hg => rfl); (case hr => kernel_rfl); (try dsimp only [List.cons_append, List.nil_append]))
              (apply o_append; (case hx => rfl); (case hy => rfl); (case p => (with_reducible repeat constructor)); (case hr => exact rdw_own (by (with_reducible repeat constructor))); (case hl => rfl); (case h1 => exact keyL_one _); (case hb => omega); (case hn => rfl))
              intro kv2
              (refine Tri.shape (e := 98) (size := 2) (v := kv2) (by (with_reducible repeat constructor)) ?_; rintro ⟨A3, c3, rfl⟩)
              (apply TriM.back; (case p => (repeat first | with_reducible constructor | constructor)))
              ((first | (apply TriM.q 6; rfl; rfl) | (apply TriM.qYes 6; rfl; rfl; rfl; with_reducible rfl)); kernel_rfl; rfl; rfl; (intro F K hK; apply o_fieldAddr; rfl; rfl; exact hK))
              (apply TriM.a 7; (case ho => rfl); (case hg => rfl); (case hr => kernel_rfl); (try dsimp only [List.cons_append, List.nil_append]))
              (apply o_store; (case hx => rfl); (case hy => rfl); (case h1 => rfl); (case p => (with_reducible repeat constructor)); (case hi => (show 2 < 4; omega)))
              (apply TriM.back; (case p => (repeat first | with_reducible constructor | constructor)))
              (apply TriM.nil; (case hr => kernel_rfl); (try dsimp only [List.cons_append, List.nil_append]))
              (refine Tri.thenN ?_)
              ((with_reducible apply Tri.eqA (A := own 98 2 (.slice A3 _ c3) _ _) (B := own 98 2 (.slice A3 (i + 1) c3) (i + 1) (KL (keysG l (i + 1))))); (case p => (with_reducible repeat constructor)); (case e => (rw [keysG_succ, KL_snoc])))
              (apply Tri.reach (y := ⟨A3, c3, A2, c2, hr2⟩); (case hL => ((try dsimp only); (repeat (first | exact trivial | refine And.intro (by rfl) ?_)))); (case p => ((try dsimp only); (repeat (first | exact Pulls.nil | (apply Pulls.cons; (case a => (first | ((repeat (first | with_reducible exact Gv.Pull.head | with_reducible apply Gv.Pull.tail)); done) | (repeat (first | exact Gv.Pull.head | apply Gv.Pull.tail))))))))))
            · (apply o_litSl (ys := keyL (keyG l i)); (case hp => (repeat first | exact pev.nil | (apply pev.cons; case a => rfl))); (case hm => rfl); (case hf => rfl); (case hn => rfl); intro vl)
              (apply TriM.back; (case p => (repeat first | with_reducible constructor | constructor)))
              (apply TriM.a 1; (case ho => rfl); (case hg => rfl); (case hr => kernel_rfl); (try dsimp only [List.cons_append, List.nil_append]))
              (apply o_load; (case hx => rfl); (case p => (with_reducible repeat constructor)); (case hv => rfl); (case hn => rfl))
              (apply TriM.back; (case p => (repeat first | with_reducible constructor | constructor)))
              (apply TriM.a 5; (case ho => rfl); (case hg => rfl); (case hr => kernel_rfl); (try dsimp only [List.cons_append, List.nil_append]))
              (apply o_append; (case hx => rfl); (case hy => rfl); (case p => (with_reducible repeat constructor)); (case hr => exact rdw_own (by (with_reducible repeat constructor))); (case hl => rfl); (case h1 => exact keyL_one _); (case hb => omega); (case hn => rfl))
              intro kv2
              (refine Tri.shape (e := 98) (size := 2) (v := kv2) (by (with_reducible repeat constructor)) ?_; rintro ⟨A3, c3, rfl⟩)
              (apply TriM.back; (case p => (repeat first | with_reducible constructor | constructor)))
              ((first | (apply TriM.q 6; rfl; rfl) | (apply TriM.qYes 6; rfl; rfl; rfl; with_reducible rfl)); kernel_rfl; rfl; rfl; (intro F K hK; apply o_fieldAddr; rfl; rfl; exact hK))
              (apply TriM.a 7; (case ho => rfl); (case hg => rfl); (case hr => kernel_rfl); (try dsimp only [List.cons_append, List.nil_append]))
              (apply o_store; (case hx => rfl); (case hy => rfl); (case h1 => rfl); (case p => (with_reducible repeat constructor)); (case hi => (show 2 < 4; omega)))
              (apply TriM.back; (case p => (repeat first | with_reducible constructor | constructor)))
              (apply TriM.nil; (case hr => kernel_rfl); (try dsimp only [List.cons_append, List.nil_append]))
              (refine Tri.thenN ?_)
              ((with_reducible apply Tri.eqA (A := own 98 2 (.slice A3 _ c3) _ _) (B := own 98 2 (.slice A3 (i + 1) c3) (i + 1) (KL (keysG l (i + 1))))); (case p => (with_reducible repeat constructor)); (case e => (rw [keysG_succ, KL_snoc])))
              (apply Tri.reach (y := ⟨A3, c3, A2, c2, hr2⟩); (case hL => ((try dsimp only); (repeat (first | exact trivial | refine And.intro (by rfl) ?_)))); (case p => ((try dsimp only); (repeat (first | exact Pulls.nil | (apply Pulls.cons; (case a => (first | ((repeat (first | with_reducible exact Gv.Pull.head | with_reducible apply Gv.Pull.tail)); done) | (repeat (first | exact Gv.Pull.head | apply Gv.Pull.tail))))))))))
        · skip
          ((first | with_reducible apply Tri.mix [Ex (hp w)] | (apply TriR.mix [Ex (hp w)]; (case hnd => rfl))); (case p => (repeat first | with_reducible constructor | constructor)); (dsimp only [List.length]))
          ((first | (apply TriM.q 0; rfl; rfl) | (apply TriM.qYes 0; rfl; rfl; rfl; with_reducible rfl)); kernel_rfl; rfl; rfl; (intro F K hK; apply o_fieldAddr; rfl; rfl; exact hK); (first | (apply TriM.q 2; rfl; rfl) | (apply TriM.qYes 2; rfl; rfl; rfl; with_reducible rfl)); kernel_rfl; rfl; rfl; (intro F K hK; apply o_move; rfl; rfl; exact hK))
          (apply TriM.a2 1 3; (case hoi => rfl); (case hoj => rfl); (case hgi => rfl); (case hgj => rfl); (case hr => kernel_rfl); (all_goals (try dsimp only [List.cons_append, List.nil_append])))
          · (apply o_load; (case hx => rfl); (case p => (with_reducible repeat constructor)); (case hv => rfl); (case hn => rfl))
            (apply TriM.back; (case p => (repeat first | with_reducible constructor | constructor)))
            (apply TriM.a 3; (case ho => rfl); (case hg => rfl); (case hr => kernel_rfl); (try dsimp only [List.cons_append, List.nil_append]))
            ((with_reducible apply o_callS (hs := node_take b8 (.slice A2 (l.drop (13 + i * 14)).length c2) (l.drop (13 + i * 14)) 2 (hp w) hr2 (by rw [List.length_drop]; omega) (by omega))); (case hargs => (repeat first | exact evs.nil | (apply evs.cons; case a => rfl))); (case p => (repeat first | with_reducible constructor | constructor)); (case hn => rfl))
            rintro x1 H1 ⟨rfl, A4, c4, hr4, rfl⟩
            simp only [List.drop_drop] at hr4 ⊢
            rw [show 13 + i * 14 + 2 = 1 + (i + 1) * 14 by omega] at hr4 ⊢
            (try dsimp only [List.cons_append, List.nil_append])
            (apply TriM.back; (case p => (repeat first | with_reducible constructor | constructor)))
            ((first | (apply TriM.q 4; rfl; rfl) | (apply TriM.qYes 4; rfl; rfl; rfl; with_reducible rfl)); kernel_rfl; rfl; rfl; (intro F K hK; apply o_convI; rfl; rfl; (first | decide | (exact wrap_i64 (by omega)) | (exact wrap_u8 (by omega)) | (exact wrap_u16 (by omega)) | (exact wrap_u32 (by omega)) | (exact wrap_u64 (by omega))); exact hK))
            ((with_reducible apply TriM.setv 59 ((.int .i64 (kidG l i)))); (case h => rfl); (case hv => (first | rfl | (rw [wrap_i64 (by omega)]; rfl))))
            (apply TriM.a 5; (case ho => rfl); (case hg => rfl); (case hr => kernel_rfl); (try dsimp only [List.cons_append, List.nil_append]))
            (apply o_litSl (ys := [.int .i64 (kidG l i)]); (case hp => (repeat first | exact pev.nil | (apply pev.cons; case a => rfl))); (case hm => rfl); (case hf => rfl); (case hn => rfl); intro vl)
            (apply TriM.back; (case p => (repeat first | with_reducible constructor | constructor)))
            (apply TriM.a 6; (case ho => rfl); (case hg => rfl); (case hr => kernel_rfl); (try dsimp only [List.cons_append, List.nil_append]))
            (apply o_append; (case hx => rfl); (case hy => rfl); (case p => (with_reducible repeat constructor)); (case hr => exact rdw_own (by (with_reducible repeat constructor))); (case hl => rfl); (case h1 => (intro y hy; simp at hy; subst hy; rfl)); (case hb => omega); (case hn => rfl))
            intro dv2
            (refine Tri.shape (e := 3) (size := 1) (v := dv2) (by (with_reducible repeat constructor)) ?_; rintro ⟨A5, c5, rfl⟩)
            (apply TriM.back; (case p => (repeat first | with_reducible constructor | constructor)))
            ((first | (apply TriM.q 7; rfl; rfl) | (apply TriM.qYes 7; rfl; rfl; rfl; with_reducible rfl)); kernel_rfl; rfl; rfl; (intro F K hK; apply o_fieldAddr; rfl; rfl; exact hK))
            (apply TriM.a 8; (case ho => rfl); (case hg => rfl); (case hr => kernel_rfl); (try dsimp only [List.cons_append, List.nil_append]))
            (apply o_store; (case hx => rfl); (case hy => rfl); (case h1 => rfl); (case p => (with_reducible repeat constructor)); (case hi => (show 3 < 4; omega)))
            (apply TriM.back; (case p => (repeat first | with_reducible constructor | constructor)))
            (apply TriM.nil; (case hr => kernel_rfl); (try dsimp only [List.cons_append, List.nil_append]))
            (refine Tri.blockN (Tri.thenN (Tri.region ?_)); apply Tri.op; rfl; apply o_add64; rfl; rfl; rfl; (omega); apply Tri.op; rfl; apply o_move; rfl; rfl; refine Tri.nil (Tri.thenN ?_))
            ((with_reducible apply Tri.eqA (A := own 3 1 (.slice A5 _ c5) _ _) (B := own 3 1 (.slice A5 (i + 1) c5) (i + 1) (NL (kidsG l (i + 1))))); (case p => (with_reducible repeat constructor)); (case e => (rw [kidsG_succ, NL_snoc])))
            (apply Tri.again (y := ⟨i + 1, A3, c3, A5, c5, A4, c4, by omega, hr4⟩); (case p => ((try dsimp only); (repeat (first | exact Pulls.nil | (apply Pulls.cons; (case a => (first | ((repeat (first | with_reducible exact Gv.Pull.head | with_reducible apply Gv.Pull.tail)); done) | (repeat (first | exact Gv.Pull.head | apply Gv.Pull.tail))))))))); (case hm => ((try dsimp only); omega)); (try dsimp only))
            (repeat (first | exact trivial | refine And.intro (by rfl) ?_))
          · ((with_reducible apply o_callS (hs := node_take b8 (.slice A2 (l.drop (13 + i * 14)).length c2) (l.drop (13 + i * 14)) 2 (hp w) hr2 (by rw [List.length_drop]; omega) (by omega))); (case hargs => (repeat first | exact evs.nil | (apply evs.cons; case a => rfl))); (case p => (repeat first | with_reducible constructor | constructor)); (case hn => rfl))
            rintro x1 H1 ⟨rfl, A4, c4, hr4, rfl⟩
            simp only [List.drop_drop] at hr4 ⊢
            rw [show 13 + i * 14 + 2 = 1 + (i + 1) * 14 by omega] at hr4 ⊢
            (try dsimp only [List.cons_append, List.nil_append])
            (apply TriM.back; (case p => (repeat first | with_reducible constructor | constructor)))
            ((first | (apply TriM.q 4; rfl; rfl) | (apply TriM.qYes 4; rfl; rfl; rfl; with_reducible rfl)); kernel_rfl; rfl; rfl; (intro F K hK; apply o_convI; rfl; rfl; (first | decide | (exact wrap_i64 (by omega)) | (exact wrap_u8 (by omega)) | (exact wrap_u16 (by omega)) | (exact wrap_u32 (by omega)) | (exact wrap_u64 (by omega))); exact hK))
            ((with_reducible apply TriM.setv 59 ((.int .i64 (kidG l i)))); (case h => rfl); (case hv => (first | rfl | (rw [wrap_i64 (by omega)]; rfl))))
            (apply TriM.a2 1 5; (case hoi => rfl); (case hoj => rfl); (case hgi => rfl); (case hgj => rfl); (case hr => kernel_rfl); (all_goals (try dsimp only [List.cons_append, List.nil_append])))
            · (apply o_load; (case hx => rfl); (case p => (with_reducible repeat constructor)); (case hv => rfl); (case hn => rfl))
              (apply TriM.back; (case p => (repeat first | with_reducible constructor | constructor)))
              (apply TriM.a 5; (case ho => rfl); (case hg => rfl); (case hr => kernel_rfl); (try dsimp only [List.cons_append, List.nil_append]))
              (apply o_litSl (ys := [.int .i64 (kidG l i)]); (case hp => (repeat first | exact pev.nil | (apply pev.cons; case a => rfl))); (case hm => rfl); (case hf => rfl); (case hn => rfl); intro vl)
              (apply TriM.back; (case p => (repeat first | with_reducible constructor | constructor)))
              (apply TriM.a 6; (case ho => rfl); (case hg => rfl); (case hr => kernel_rfl); (try dsimp only [List.cons_append, List.nil_append]))
              (apply o_append; (case hx => rfl); (case hy => rfl); (case p => (with_reducible repeat constructor)); (case hr => exact rdw_own (by (with_reducible repeat constructor))); (case hl => rfl); (case h1 => (intro y hy; simp at hy; subst hy; rfl)); (case hb => omega); (case hn => rfl))
              intro dv2
              (refine Tri.shape (e := 3) (size := 1) (v := dv2) (by (with_reducible repeat constructor)) ?_; rintro ⟨A5, c5, rfl⟩)
              (apply TriM.back; (case p => (repeat first | with_reducible constructor | constructor)))
              ((first | (apply TriM.q 7; rfl; rfl) | (apply TriM.qYes 7; rfl; rfl; rfl; with_reducible rfl)); kernel_rfl; rfl; rfl; (intro F K hK; apply o_fieldAddr; rfl; rfl; exact hK))
              (apply TriM.a 8; (case ho => rfl); (case hg => rfl); (case hr => kernel_rfl); (try dsimp only [List.cons_append, List.nil_append]))
              (apply o_store; (case hx => rfl); (case hy => rfl); (case h1 => rfl); (case p => (with_reducible repeat constructor)); (case hi => (show 3 < 4; omega)))
              (apply TriM.back; (case p => (repeat first | with_reducible constructor | constructor)))
              (apply TriM.nil; (case hr => kernel_rfl); (try dsimp only [List.cons_append, List.nil_append]))
              (refine Tri.blockN (Tri.thenN (Tri.region ?_)); apply Tri.op; rfl; apply o_add64; rfl; rfl; rfl; (omega); apply Tri.op; rfl; apply o_move; rfl; rfl; refine Tri.nil (Tri.thenN ?_))
              ((with_reducible apply Tri.eqA (A := own 3 1 (.slice A5 _ c5) _ _) (B := own 3 1 (.slice A5 (i + 1) c5) (i + 1) (NL (kidsG l (i + 1))))); (case p => (with_reducible repeat constructor)); (case e => (rw [kidsG_succ, NL_snoc])))
              (apply Tri.again (y := ⟨i + 1, A3, c3, A5, c5, A4, c4, by omega, hr4⟩); (case p => ((try dsimp only); (repeat (first | exact Pulls.nil | (apply Pulls.cons; (case a => (first | ((repeat (first | with_reducible exact Gv.Pull.head | with_reducible apply Gv.Pull.tail)); done) | (repeat (first | exact Gv.Pull.head | apply Gv.Pull.tail))))))))); (case hm => ((try dsimp only); omega)); (try dsimp only))
              (repeat (first | exact trivial | refine And.intro (by rfl) ?_))
            · (apply o_litSl (ys := [.int .i64 (kidG l i)]); (case hp => (repeat first | exact pev.nil | (apply pev.cons; case a => rfl))); (case hm => rfl); (case hf => rfl); (case hn => rfl); intro vl)
              (apply TriM.back; (case p => (repeat first | with_reducible constructor | constructor)))
              (apply TriM.a 1; (case ho => rfl); (case hg => rfl); (case hr => kernel_rfl); (try dsimp only [List.cons_append, List.nil_append]))
              (apply o_load; (case hx => rfl); (case p => (with_reducible repeat constructor)); (case hv => rfl); (case hn => rfl))
              (apply TriM.back; (case p => (repeat first | with_reducible constructor | constructor)))
              (apply TriM.a 6; (case ho => rfl); (case hg => rfl); (case hr => kernel_rfl); (try dsimp only [List.cons_append, List.nil_append]))
              (apply o_append; (case hx => rfl); (case hy => rfl); (case p => (with_reducible repeat constructor)); (case hr => exact rdw_own (by (with_reducible repeat constructor))); (case hl => rfl); (case h1 => (intro y hy; simp at hy; subst hy; rfl)); (case hb => omega); (case hn => rfl))
              intro dv2
              (refine Tri.shape (e := 3) (size := 1) (v := dv2) (by (with_reducible repeat constructor)) ?_; rintro ⟨A5, c5, rfl⟩)
              (apply TriM.back; (case p => (repeat first | with_reducible constructor | constructor)))
              ((first | (apply TriM.q 7; rfl; rfl) | (apply TriM.qYes 7; rfl; rfl; rfl; with_reducible rfl)); kernel_rfl; rfl; rfl; (intro F K hK; apply o_fieldAddr; rfl; rfl; exact hK))
              (apply TriM.a 8; (case ho => rfl); (case hg => rfl); (case hr => kernel_rfl); (try dsimp only [List.cons_append, List.nil_append]))
              (apply o_store; (case hx => rfl); (case hy => rfl); (case h1 => rfl); (case p => (with_reducible repeat constructor)); (case hi => (show 3 < 4; omega)))
              (apply TriM.back; (case p => (repeat first | with_reducible constructor | constructor)))
              (apply TriM.nil; (case hr => kernel_rfl); (try dsimp only [List.cons_append, List.nil_append]))
              (refine Tri.blockN (Tri.thenN (Tri.region ?_)); apply Tri.op; rfl; apply o_add64; rfl; rfl; rfl; (omega); apply Tri.op; rfl; apply o_move; rfl; rfl; refine Tri.nil (Tri.thenN ?_))
              ((with_reducible apply Tri.eqA (A := own 3 1 (.slice A5 _ c5) _ _) (B := own 3 1 (.slice A5 (i + 1) c5) (i + 1) (NL (kidsG l (i + 1))))); (case p => (with_reducible repeat constructor)); (case e => (rw [kidsG_succ, NL_snoc])))
              (apply Tri.again (y := ⟨i + 1, A3, c3, A5, c5, A4, c4, by omega, hr4⟩); (case p => ((try dsimp only); (repeat (first | exact Pulls.nil | (apply Pulls.cons; (case a => (first | ((repeat (first | with_reducible exact Gv.Pull.head | with_reducible apply Gv.Pull.tail)); done) | (repeat (first | exact Gv.Pull.head | apply Gv.Pull.tail))))))))); (case hm => ((try dsimp only); omega)); (try dsimp only))
              (repeat (first | exact trivial | refine And.intro (by rfl) ?_))
      · obtain rfl : i = n := by omega
        have hnk : (keysG l i).length = i := keysG_length l i
        have hnd : (kidsG l i).length = i := kidsG_length l i
        ((with_reducible refine Tri.exit (Tri.thenE (Tri.thenE (Tri.blockE (Tri.thenN (Tri.seq (Tri.region ?_))))))); apply Tri.op; rfl)
        (apply o_loadAll (cs := ndL (.slice none 0 0) (.slice Ak i ck) (.slice Ad i cd)); (case hx => rfl); (case p => (with_reducible repeat constructor)); (case hl => rfl); (case hn => rfl))
        (apply Tri.op; rfl)
        have hpre : ∀ {H H1 H2 : List Atom} (p1 : Pull H (own 98 2 (.slice Ak i ck) i (KL (keysG l i))) H1) (p2 : Pull H (own 3 1 (.slice Ad i cd) i (NL (kidsG l i))) H2) (w' : World), St w w' H → RdW w' (.slice none 0 0) 0 [] ∧ RdW w' (.slice Ak i ck) (keysG l i).length (KL (keysG l i)) ∧ RdW w' (.slice Ad i cd) (kidsG l i).length (NL (kidsG l i)) := fun p1 p2 w' hw' => ⟨⟨none, 0, rfl, ⟨Nat.le_refl _, Nat.zero_le _⟩, fun j u hu => by simp at hu⟩, by rw [hnk]; exact rdw_own p1 w' hw', by rw [hnd]; exact rdw_own p2 w' hw'⟩
        by_cases hok : innerB (keysG l i) (kidsG l i) = true
        · (apply o_callR (hs := node_Put (.slice none 0 0) (.slice Ak i ck) (.slice Ad i cd) (keysG l i) (kidsG l i) hok); (case hargs => (repeat first | exact evs.nil | (apply evs.cons; case a => rfl))); (case hpre => exact hpre (by (with_reducible repeat constructor)) (by (with_reducible repeat constructor))); (case hn => rfl))
          rintro r1 H1 ⟨u, rfl, rfl⟩
          (try dsimp only [List.cons_append, List.nil_append])
          (apply Tri.op; rfl; apply o_move; rfl; rfl; apply Tri.op; rfl; apply o_extract; rfl; rfl; rfl; apply Tri.op; rfl; apply o_extract; rfl; rfl; rfl; apply Tri.op; rfl; apply o_assign; rfl; rfl; apply Tri.op; rfl; apply o_assign; rfl; rfl; refine Tri.nil (Tri.thenN (Tri.seq (Tri.seq (Tri.region ?_)))); apply Tri.op; rfl; apply o_move; rfl; rfl; apply Tri.op; rfl; apply o_neq; rfl; rfl; rfl; apply Tri.op; rfl; apply o_move; rfl; rfl)
          ((with_reducible apply Tri.setb 71 (false)); (case h => rfl); (case hi => rfl))
          (apply Tri.opYes; rfl; rfl; rfl; apply o_move; rfl; rfl; apply Tri.opYes; rfl; rfl; rfl; apply o_move; rfl; rfl; apply Tri.opYes; rfl; rfl; rfl)
          (apply o_callV (hs := bytes_Equal2 u (.slice A0 l.length c0) (putI (keysG l i) (kidsG l i)) l); (case hargs => (repeat first | exact evs.nil | (apply evs.cons; case a => rfl))); (case hpre => exact fun w' hw' => ⟨rdw_own (by (with_reducible repeat constructor)) w' hw', rdw_ex (by (with_reducible repeat constructor)) hr w' hw'⟩); (case hn => rfl))
          (apply Tri.opYes; rfl; rfl; rfl; apply o_notD; rfl; rfl; apply Tri.op; rfl; apply o_pickF; (iterate 4 rfl); refine Tri.nil (Tri.thenN ?_))
          by_cases hpe : putI (keysG l i) (kidsG l i) = l
          · have hg : getI l = ((keysG l i, kidsG l i), 0) := by rw [getI, if_neg (by rw [← hn]; omega), ← hn, if_pos ⟨hok, hpe⟩]
            ((with_reducible apply Tri.setb 76 (false)); (case h => rfl); (case hi => simp [hpe]))
            (apply Tri.condF; rfl; rfl; refine Tri.skip (Tri.thenN (Tri.seq (Tri.region ?_))); apply Tri.op; rfl)
            (apply o_loadAll (cs := ndL (.slice none 0 0) (.slice Ak i ck) (.slice Ad i cd)); (case hx => rfl); (case p => (with_reducible repeat constructor)); (case hl => rfl); (case hn => rfl))
            (apply Tri.op; rfl)
            (apply o_storeAll (ys := ndL (.slice none 0 0) (.slice Ak i ck) (.slice Ad i cd)); (case hx => rfl); (case hy => rfl); (case p => (with_reducible repeat constructor)); (case hl => rfl); (case hc => rfl); (case h1 => exact nd_one' Ak Ad i ck i cd))
            (apply Tri.op; rfl; apply o_assign; rfl; rfl; refine Tri.nil (Tri.thenN (Tri.ret ?_)))
            rw [hg]
            simp only [hnk, hnd]
            (apply Tri.fin; (case hr => rfl); (case h => exact ResL.cons ((Res1.agg rfl (by (with_reducible repeat constructor)) (by rw [List.drop_zero]; exact List.take_of_length_le (Nat.le_of_eq (ndL_len (.slice none 0 0) (.slice Ak i ck) (.slice Ad i cd)))) (ndL_len (.slice none 0 0) (.slice Ak i ck) (.slice Ad i cd)))) (ResL.cons (Res1.tmp rfl) (ResL.nil))); (apply fin_R (Hn := [own 98 2 (.slice Ak i ck) i (KL (keysG l i)), own 3 1 (.slice Ad i cd) i (NL (kidsG l i))])); (case p => exact (by (repeat first | with_reducible constructor | constructor))); exact ⟨Ak, ck, Ad, cd, rfl, rfl⟩)
          · have hg : getI l = (([], []), 3) := by rw [getI, if_neg (by rw [← hn]; omega), ← hn, if_neg (fun h => hpe h.2)]
            ((with_reducible apply Tri.setb 76 (true)); (case h => rfl); (case hi => simp [hpe]))
            (apply Tri.condT; rfl; rfl; refine Tri.seq (Tri.region ?_); apply Tri.op; rfl; apply o_build0; rfl; apply Tri.op; rfl)
            (apply o_storeAll (ys := ndL (.slice none 0 0) (.slice none 0 0) (.slice none 0 0)); (case hx => rfl); (case hy => rfl); (case p => (with_reducible repeat constructor)); (case hl => rfl); (case hc => rfl); (case h1 => exact nd_one none 0 none 0))
            (apply Tri.op; rfl; apply o_assign; rfl; rfl; refine Tri.nil (Tri.thenN (Tri.ret (Tri.thenR ?_))))
            (with_reducible apply Tri.ownNil 3 1)
            (with_reducible apply Tri.ownNil 98 2)
            rw [hg]
            (apply Tri.fin; (case hr => rfl); (case h => exact ResL.cons ((Res1.agg rfl (by (with_reducible repeat constructor)) (by rw [List.drop_zero]; exact List.take_of_length_le (Nat.le_of_eq (ndL_len (.slice none 0 0) (.slice none 0 0) (.slice none 0 0)))) (ndL_len (.slice none 0 0) (.slice none 0 0) (.slice none 0 0)))) (ResL.cons (Res1.tmp rfl) (ResL.nil))); (apply fin_R (Hn := [own 98 2 (.slice none 0 0) 0 [], own 3 1 (.slice none 0 0) 0 []])); (case p => exact (by (repeat first | with_reducible constructor | constructor))); exact ⟨none, 0, none, 0, rfl, rfl⟩)
        · have hg : getI l = (([], []), 3) := by rw [getI, if_neg (by rw [← hn]; omega), ← hn, if_neg (fun h => hok h.1)]
          (apply o_callV (hs := node_Put_no (.slice none 0 0) (.slice Ak i ck) (.slice Ad i cd) (keysG l i) (kidsG l i) (by simpa using hok)); (case hargs => (repeat first | exact evs.nil | (apply evs.cons; case a => rfl))); (case hpre => exact hpre (by (with_reducible repeat constructor)) (by (with_reducible repeat constructor))); (case hn => rfl))
          (apply Tri.op; rfl; apply o_move; rfl; rfl; apply Tri.op; rfl; apply o_extract; rfl; rfl; rfl; apply Tri.op; rfl; apply o_extract; rfl; rfl; rfl; apply Tri.op; rfl; apply o_assign; rfl; rfl; apply Tri.op; rfl; apply o_assign; rfl; rfl; refine Tri.nil (Tri.thenN (Tri.seq (Tri.seq (Tri.region ?_)))); apply Tri.op; rfl; apply o_move; rfl; rfl; apply Tri.op; rfl; apply o_neq; rfl; rfl; rfl; apply Tri.op; rfl; apply o_move; rfl; rfl)
          ((with_reducible apply Tri.setb 71 (true)); (case h => rfl); (case hi => rfl))
          ((iterate 4 apply Tri.opNo (c := true); (iterate 6 rfl)); apply Tri.op; rfl; apply o_pickT; (iterate 4 rfl); refine Tri.nil (Tri.thenN ?_); apply Tri.condT; rfl; rfl; refine Tri.seq (Tri.region ?_); apply Tri.op; rfl; apply o_build0; rfl; apply Tri.op; rfl)
          (apply o_storeAll (ys := ndL (.slice none 0 0) (.slice none 0 0) (.slice none 0 0)); (case hx => rfl); (case hy => rfl); (case p => (with_reducible repeat constructor)); (case hl => rfl); (case hc => rfl); (case h1 => exact nd_one none 0 none 0))
          (apply Tri.op; rfl; apply o_assign; rfl; rfl; refine Tri.nil (Tri.thenN (Tri.ret (Tri.thenR ?_))))
          (with_reducible apply Tri.ownNil 3 1)
          (with_reducible apply Tri.ownNil 98 2)
          rw [hg]
          (apply Tri.fin; (case hr => rfl); (case h => exact ResL.cons ((Res1.agg rfl (by (with_reducible repeat constructor)) (by rw [List.drop_zero]; exact List.take_of_length_le (Nat.le_of_eq (ndL_len (.slice none 0 0) (.slice none 0 0) (.slice none 0 0)))) (ndL_len (.slice none 0 0) (.slice none 0 0) (.slice none 0 0)))) (ResL.cons (Res1.tmp rfl) (ResL.nil))); (apply fin_R (Hn := [own 98 2 (.slice none 0 0) 0 [], own 3 1 (.slice none 0 0) 0 []])); (case p => exact (by (repeat first | with_reducible constructor | constructor))); exact ⟨none, 0, none, 0, rfl, rfl⟩)

end Go.Proofs.Ytckdlfbbkemklaa
end
section
/- node: entries, leaves; Right, Size, Least of any node. -/
namespace Go.Proofs.Ytckdlfbbkemklaa
open Go Go.RowKit Go.Gv
set_option linter.unusedVariables false
set_option linter.unusedSimpArgs false

def entL (e : ENT) : List Value := [.int .i64 e.key.1, .int .i64 e.key.2, .int .i64 e.fin, .int .i64 e.addr, .int .i64 e.len, .int .i64 e.count, .int .i64 e.codec, .int .u32 (e.crc : Int)]
def entV (e : ENT) : Value := .agg (entL e).toArray
def EL (E : List ENT) : List Value := E.flatMap entL
theorem entL_len (e : ENT) : (entL e).length = 8 := rfl
theorem EL_length : ∀ E, (EL E).length = E.length * 8
  | [] => rfl
  | x :: W => by
    have := EL_length W
    simp only [EL, List.flatMap_cons, List.length_append, List.length_cons, entL_len] at this ⊢; omega
theorem EL_drop : ∀ (F : List ENT) (k : Nat), (EL F).drop (k * 8) = EL (F.drop k)
  | F, 0 => rfl
  | [], k + 1 => by simp [EL]
  | x :: F, k + 1 => by
    rw [show (k + 1) * 8 = k * 8 + 8 by omega, ← List.drop_drop, List.drop_drop, Nat.add_comm, ← List.drop_drop]
    exact EL_drop F k
theorem EL_eight (F : List ENT) (k : Nat) (h : k < F.length) : ((EL F).drop (k * 8)).take 8 = entL (F.getD k ent0) := by
  rw [EL_drop, List.drop_eq_getElem_cons h, List.getD_eq_getElem?_getD, List.getElem?_eq_getElem h]; rfl
theorem EL_key (F : List ENT) (k : Nat) (h : k < F.length) : ((EL F).drop (k * 8)).take 2 = keyL (F.getD k ent0).key := by
  rw [EL_drop, List.drop_eq_getElem_cons h, List.getD_eq_getElem?_getD, List.getElem?_eq_getElem h]; rfl
theorem EL_snoc (a : List ENT) (k : ENT) : EL (a ++ [k]) = EL a ++ entL k := by simp [EL]
theorem entL_one (e : ENT) : ∀ y ∈ entL e, y.oneCell' = true := by
  intro y hy; simp [entL] at hy; rcases hy with rfl | rfl | rfl | rfl | rfl | rfl | rfl | rfl <;> rfl
def ndLL (leaf : Bool) (ev kv dv : Value) : List Value := [.bool leaf, ev, kv, dv]
def ndW (leaf : Bool) (ev kv dv : Value) : Value := .agg (ndLL leaf ev kv dv).toArray
theorem ndLL_len (l : Bool) (a b c : Value) : (ndLL l a b c).length = 4 := rfl

set_option maxHeartbeats 1000000 in
theorem node_PagesE (e : ENT) (hl : 0 ≤ e.len ∧ e.len ≤ 65535) : SpecR Try.prog 143 #[entV e] (fun _ => True) (fun r H' => r = .int .i64 (pagesE e.len) ∧ H' = []) := by
  refine SpecR.of (fun w _ => ?_)
  refine Calls.enter Try.func143 rfl rfl rfl (St.rebase w) ?_
  simp only [argSlots]
  (refine Tri.seq (Tri.region ?_); apply Tri.op; rfl)
  (first | (apply o_boxA; (case hx => rfl); (case hn => rfl); intro b1) | (apply o_box1; (case hx => rfl); (case h1 => rfl); (case hn => rfl); intro b1))
  (apply Tri.op; rfl; apply o_assign; rfl; rfl; refine Tri.nil (Tri.thenN (Tri.seq (Tri.region ?_))); apply Tri.op; rfl; apply o_fieldAddr; rfl; rfl; apply Tri.op; rfl; apply o_load; rfl; (with_reducible repeat constructor); rfl; rfl; apply Tri.op; rfl; apply o_add64; rfl; rfl; rfl; (omega); apply Tri.op; rfl; apply o_sub64; rfl; rfl; rfl; (omega); apply Tri.op; rfl; apply o_quo; rfl; rfl; rfl; (omega); (omega); apply Tri.op; rfl; apply o_assign; rfl; rfl; refine Tri.nil (Tri.thenN (Tri.ret ?_)))
  ((with_reducible apply Tri.seti 2 ((pagesE e.len))); (case h => rfl); (case hi => (unfold pagesE; omega)))
  (apply Tri.fin; (case hr => rfl); (case h => exact ResL.cons (Res1.tmp rfl) (ResL.nil)); (apply fin_R (Hn := [])); (case p => exact (by (repeat first | with_reducible constructor | constructor))); exact ⟨by simp only [tupled]; done, rfl⟩)
set_option maxHeartbeats 4000000 in
theorem node_rightEntry (e : ENT) : SpecR Try.prog 126 #[entV e] (fun _ => True) (fun r H' => r = .bool (entOk e) ∧ H' = []) := by
  refine SpecR.of (fun w _ => ?_)
  refine Calls.enter Try.func126 rfl rfl rfl (St.rebase w) ?_
  simp only [argSlots]
  (refine Tri.seq (Tri.region ?_); apply Tri.op; rfl)
  (first | (apply o_boxA; (case hx => rfl); (case hn => rfl); intro b1) | (apply o_box1; (case hx => rfl); (case h1 => rfl); (case hn => rfl); intro b1))
  (apply Tri.op; rfl; apply o_assign; rfl; rfl; refine Tri.nil (Tri.thenN (Tri.seq (Tri.seq (Tri.region ?_)))); apply Tri.op; rfl; apply o_fieldAddr; rfl; rfl; apply Tri.op; rfl)
  (apply o_loadAgg (ys := keyL e.key); (case hx => rfl); (case p => (with_reducible repeat constructor)); (case hv => rfl); (case hl => rfl); (case hn => rfl))
  (apply Tri.op; rfl)
  (apply o_callV (hs := node_rightKey e.key); (case hargs => (repeat first | exact evs.nil | (apply evs.cons; case a => rfl))); (case hpre => exact fun _ _ => trivial); (case hn => rfl))
  (apply Tri.op; rfl; apply o_not; rfl; rfl; apply Tri.op; rfl; apply o_move; rfl; rfl)
  ((with_reducible apply Tri.casesB 7); (case h => rfl); (all_goals intro h1))
  · have g1 : keyOk e.key = false := by simpa using h1
    ((iterate 6 apply Tri.opNo (c := true); (iterate 6 rfl)); apply Tri.op; rfl; apply o_pickT; (iterate 4 rfl); apply Tri.op; rfl; apply o_move; rfl; rfl; (iterate 4 apply Tri.opNo (c := true); (iterate 6 rfl)); apply Tri.op; rfl; apply o_pickT; (iterate 4 rfl); apply Tri.op; rfl; apply o_move; rfl; rfl; (iterate 4 apply Tri.opNo (c := true); (iterate 6 rfl)); apply Tri.op; rfl; apply o_pickT; (iterate 4 rfl); refine Tri.nil (Tri.thenN ?_); apply Tri.condT; rfl; rfl; refine Tri.seq (Tri.region ?_); apply Tri.op; rfl; apply o_assign; rfl; rfl; refine Tri.nil (Tri.thenN (Tri.ret (Tri.thenR ?_))))
    (apply Tri.fin; (case hr => rfl); (case h => exact ResL.cons (Res1.tmp rfl) (ResL.nil)); (apply fin_R (Hn := [])); (case p => exact (by (repeat first | with_reducible constructor | constructor))); exact ⟨by simp only [tupled]; (rw [entOk, g1]; rfl), rfl⟩)
  · have g1 : keyOk e.key = true := by simpa using h1
    (apply Tri.opYes; rfl; rfl; rfl; apply o_fieldAddr; rfl; rfl; apply Tri.opYes; rfl; rfl; rfl; apply o_load; rfl; (with_reducible repeat constructor); rfl; rfl; apply Tri.opYes; rfl; rfl; rfl; apply o_fieldAddr; rfl; rfl; apply Tri.opYes; rfl; rfl; rfl; apply o_fieldAddr; rfl; rfl; apply Tri.opYes; rfl; rfl; rfl; apply o_load; rfl; (with_reducible repeat constructor); rfl; rfl; apply Tri.opYes; rfl; rfl; rfl; apply o_lss; rfl; rfl; rfl; apply Tri.op; rfl; apply o_pickF; (iterate 4 rfl); apply Tri.op; rfl; apply o_move; rfl; rfl)
    ((with_reducible apply Tri.casesB 15); (case h => rfl); (all_goals intro h2))
    · have g2 := of_decide_eq_true h2
      ((iterate 4 apply Tri.opNo (c := true); (iterate 6 rfl)); apply Tri.op; rfl; apply o_pickT; (iterate 4 rfl); apply Tri.op; rfl; apply o_move; rfl; rfl; (iterate 4 apply Tri.opNo (c := true); (iterate 6 rfl)); apply Tri.op; rfl; apply o_pickT; (iterate 4 rfl); refine Tri.nil (Tri.thenN ?_); apply Tri.condT; rfl; rfl; refine Tri.seq (Tri.region ?_); apply Tri.op; rfl; apply o_assign; rfl; rfl; refine Tri.nil (Tri.thenN (Tri.ret (Tri.thenR ?_))))
      (apply Tri.fin; (case hr => rfl); (case h => exact ResL.cons (Res1.tmp rfl) (ResL.nil)); (apply fin_R (Hn := [])); (case p => exact (by (repeat first | with_reducible constructor | constructor))); exact ⟨by simp only [tupled]; (rw [entOk, g1, decide_eq_false (show ¬ e.key.2 ≤ e.fin by omega)]; rfl), rfl⟩)
    · have g2 := of_decide_eq_false h2
      (apply Tri.opYes; rfl; rfl; rfl; apply o_fieldAddr; rfl; rfl; apply Tri.opYes; rfl; rfl; rfl; apply o_load; rfl; (with_reducible repeat constructor); rfl; rfl; apply Tri.opYes; rfl; rfl; rfl)
      (apply o_callV (hs := node_between e.addr 2 511); (case hargs => (repeat first | exact evs.nil | (apply evs.cons; case a => rfl))); (case hpre => exact fun _ _ => trivial); (case hn => rfl))
      (apply Tri.opYes; rfl; rfl; rfl; apply o_not; rfl; rfl; apply Tri.op; rfl; apply o_pickF; (iterate 4 rfl); apply Tri.op; rfl; apply o_move; rfl; rfl)
      ((with_reducible apply Tri.casesB 21); (case h => rfl); (all_goals intro h3))
      · have g3 : betw e.addr 2 511 = false := by simpa using h3
        ((iterate 4 apply Tri.opNo (c := true); (iterate 6 rfl)); apply Tri.op; rfl; apply o_pickT; (iterate 4 rfl); refine Tri.nil (Tri.thenN ?_); apply Tri.condT; rfl; rfl; refine Tri.seq (Tri.region ?_); apply Tri.op; rfl; apply o_assign; rfl; rfl; refine Tri.nil (Tri.thenN (Tri.ret (Tri.thenR ?_))))
        (apply Tri.fin; (case hr => rfl); (case h => exact ResL.cons (Res1.tmp rfl) (ResL.nil)); (apply fin_R (Hn := [])); (case p => exact (by (repeat first | with_reducible constructor | constructor))); exact ⟨by simp only [tupled]; (rw [entOk, g3, Bool.and_false]; rfl), rfl⟩)
      · have g3 : betw e.addr 2 511 = true := by simpa using h3
        (apply Tri.opYes; rfl; rfl; rfl; apply o_fieldAddr; rfl; rfl; apply Tri.opYes; rfl; rfl; rfl; apply o_load; rfl; (with_reducible repeat constructor); rfl; rfl; apply Tri.opYes; rfl; rfl; rfl)
        (apply o_callV (hs := node_between e.len 1 65535); (case hargs => (repeat first | exact evs.nil | (apply evs.cons; case a => rfl))); (case hpre => exact fun _ _ => trivial); (case hn => rfl))
        (apply Tri.opYes; rfl; rfl; rfl; apply o_not; rfl; rfl; apply Tri.op; rfl; apply o_pickF; (iterate 4 rfl); refine Tri.nil (Tri.thenN ?_))
        (apply Tri.cond; (case hc => rfl); (all_goals intro h4))
        · have g4 : betw e.len 1 65535 = false := by simpa using h4
          (refine Tri.seq (Tri.region ?_); apply Tri.op; rfl; apply o_assign; rfl; rfl; refine Tri.nil (Tri.thenN (Tri.ret (Tri.thenR ?_))))
          (apply Tri.fin; (case hr => rfl); (case h => exact ResL.cons (Res1.tmp rfl) (ResL.nil)); (apply fin_R (Hn := [])); (case p => exact (by (repeat first | with_reducible constructor | constructor))); exact ⟨by simp only [tupled]; (rw [entOk, g4, Bool.and_false]; rfl), rfl⟩)
        · have g4 : betw e.len 1 65535 = true := by simpa using h4
          have g3' : 2 ≤ e.addr ∧ e.addr ≤ 511 := by simpa [betw] using g3
          have g4' : 1 ≤ e.len ∧ e.len ≤ 65535 := by simpa [betw] using g4
          have hpg : 0 ≤ pagesE e.len ∧ pagesE e.len ≤ 1000 := by unfold pagesE; omega
          have eh : entOk e = (decide (e.addr + pagesE e.len ≤ 512) && betw e.count 1 200 && betw e.codec 0 15) := by rw [entOk, g1, g3, g4, decide_eq_true (show e.key.2 ≤ e.fin by omega)]; rfl
          (refine Tri.skip (Tri.thenN (Tri.seq ?_)))
          (apply Tri.quiet; (case hB => kernel_rfl))
          ((first | (apply TriQ.op; rfl) | (apply TriQ.opYes; rfl; rfl; with_reducible rfl)); rfl; rfl; (intro K hK; apply o_fieldAddr; rfl; rfl; exact hK); (first | (apply TriQ.op; rfl) | (apply TriQ.opYes; rfl; rfl; with_reducible rfl)); rfl; rfl; (intro K hK; apply o_load; rfl; (with_reducible repeat constructor); rfl; rfl; exact hK))
          ((first | (apply TriQ.op; (case hg => rfl)) | (apply TriQ.opYes; (case hg => rfl); (case hy => rfl); (case hb => with_reducible rfl))); (case hd => rfl); (case hn => rfl); (case h => (intro K hK; (apply o_loadAll (cs := entL e); (case hx => rfl); (case p => (with_reducible repeat constructor)); (case hl => rfl); (case hn => rfl)); exact hK)))
          ((first | (apply TriQ.op; (case hg => rfl)) | (apply TriQ.opYes; (case hg => rfl); (case hy => rfl); (case hb => with_reducible rfl))); (case hd => rfl); (case hn => rfl); (case h => (intro K hK; apply o_callV (hs := node_PagesE e ⟨by omega, by omega⟩); (case hargs => (repeat first | exact evs.nil | (apply evs.cons; case a => rfl))); (case hpre => exact fun _ _ => trivial); (case hn => rfl); exact hK)))
          ((first | (apply TriQ.op; rfl) | (apply TriQ.opYes; rfl; rfl; with_reducible rfl)); rfl; rfl; (intro K hK; apply o_add64; rfl; rfl; rfl; (omega); exact hK); (first | (apply TriQ.op; rfl) | (apply TriQ.opYes; rfl; rfl; with_reducible rfl)); rfl; rfl; (intro K hK; apply o_leq; rfl; rfl; rfl; exact hK); (first | (apply TriQ.op; rfl) | (apply TriQ.opYes; rfl; rfl; with_reducible rfl)); rfl; rfl; (intro K hK; apply o_move; rfl; rfl; exact hK))
          ((with_reducible apply TriQ.casesB 33); (case h => rfl); (all_goals intro h5))
          · ((first | (apply TriQ.op; rfl) | (apply TriQ.opYes; rfl; rfl; with_reducible rfl)); rfl; rfl; (intro K hK; apply o_fieldAddr; rfl; rfl; exact hK); (first | (apply TriQ.op; rfl) | (apply TriQ.opYes; rfl; rfl; with_reducible rfl)); rfl; rfl; (intro K hK; apply o_load; rfl; (with_reducible repeat constructor); rfl; rfl; exact hK))
            ((first | (apply TriQ.op; (case hg => rfl)) | (apply TriQ.opYes; (case hg => rfl); (case hy => rfl); (case hb => with_reducible rfl))); (case hd => rfl); (case hn => rfl); (case h => (intro K hK; apply o_callV (hs := node_between e.count 1 200); (case hargs => (repeat first | exact evs.nil | (apply evs.cons; case a => rfl))); (case hpre => exact fun _ _ => trivial); (case hn => rfl); exact hK)))
            ((first | (apply TriQ.op; rfl) | (apply TriQ.opYes; rfl; rfl; with_reducible rfl)); rfl; rfl; (intro K hK; apply o_pickT; (iterate 4 rfl); exact hK); (first | (apply TriQ.op; rfl) | (apply TriQ.opYes; rfl; rfl; with_reducible rfl)); rfl; rfl; (intro K hK; apply o_move; rfl; rfl; exact hK))
            ((with_reducible apply TriQ.casesB 38); (case h => rfl); (all_goals intro h6))
            · ((first | (apply TriQ.op; rfl) | (apply TriQ.opYes; rfl; rfl; with_reducible rfl)); rfl; rfl; (intro K hK; apply o_fieldAddr; rfl; rfl; exact hK); (first | (apply TriQ.op; rfl) | (apply TriQ.opYes; rfl; rfl; with_reducible rfl)); rfl; rfl; (intro K hK; apply o_load; rfl; (with_reducible repeat constructor); rfl; rfl; exact hK))
              ((first | (apply TriQ.op; (case hg => rfl)) | (apply TriQ.opYes; (case hg => rfl); (case hy => rfl); (case hb => with_reducible rfl))); (case hd => rfl); (case hn => rfl); (case h => (intro K hK; apply o_callV (hs := node_between e.codec 0 15); (case hargs => (repeat first | exact evs.nil | (apply evs.cons; case a => rfl))); (case hpre => exact fun _ _ => trivial); (case hn => rfl); exact hK)))
              ((first | (apply TriQ.op; rfl) | (apply TriQ.opYes; rfl; rfl; with_reducible rfl)); rfl; rfl; (intro K hK; apply o_pickT; (iterate 4 rfl); exact hK); (first | (apply TriQ.op; rfl) | (apply TriQ.opYes; rfl; rfl; with_reducible rfl)); rfl; rfl; (intro K hK; apply o_assign; rfl; rfl; exact hK); refine TriQ.nil ?_)
              (refine Tri.thenN (Tri.ret ?_))
              (apply Tri.fin; (case hr => rfl); (case h => exact ResL.cons (Res1.tmp rfl) (ResL.nil)); (apply fin_R (Hn := [])); (case p => exact (by (repeat first | with_reducible constructor | constructor))); exact ⟨by simp only [tupled]; (rw [eh, h5, h6]; rfl), rfl⟩)
            · ((iterate 3 apply TriQ.opNo (c := false); (iterate 6 rfl)); (first | (apply TriQ.op; rfl) | (apply TriQ.opYes; rfl; rfl; with_reducible rfl)); rfl; rfl; (intro K hK; apply o_pickF; (iterate 4 rfl); exact hK); (first | (apply TriQ.op; rfl) | (apply TriQ.opYes; rfl; rfl; with_reducible rfl)); rfl; rfl; (intro K hK; apply o_assign; rfl; rfl; exact hK); refine TriQ.nil ?_)
              (refine Tri.thenN (Tri.ret ?_))
              (apply Tri.fin; (case hr => rfl); (case h => exact ResL.cons (Res1.tmp rfl) (ResL.nil)); (apply fin_R (Hn := [])); (case p => exact (by (repeat first | with_reducible constructor | constructor))); exact ⟨by simp only [tupled]; (rw [eh, h5, h6]; rfl), rfl⟩)
          · ((iterate 3 apply TriQ.opNo (c := false); (iterate 6 rfl)); (first | (apply TriQ.op; rfl) | (apply TriQ.opYes; rfl; rfl; with_reducible rfl)); rfl; rfl; (intro K hK; apply o_pickF; (iterate 4 rfl); exact hK); (first | (apply TriQ.op; rfl) | (apply TriQ.opYes; rfl; rfl; with_reducible rfl)); rfl; rfl; (intro K hK; apply o_move; rfl; rfl; exact hK); (iterate 3 apply TriQ.opNo (c := false); (iterate 6 rfl)); (first | (apply TriQ.op; rfl) | (apply TriQ.opYes; rfl; rfl; with_reducible rfl)); rfl; rfl; (intro K hK; apply o_pickF; (iterate 4 rfl); exact hK); (first | (apply TriQ.op; rfl) | (apply TriQ.opYes; rfl; rfl; with_reducible rfl)); rfl; rfl; (intro K hK; apply o_assign; rfl; rfl; exact hK); refine TriQ.nil ?_)
            (refine Tri.thenN (Tri.ret ?_))
            (apply Tri.fin; (case hr => rfl); (case h => exact ResL.cons (Res1.tmp rfl) (ResL.nil)); (apply fin_R (Hn := [])); (case p => exact (by (repeat first | with_reducible constructor | constructor))); exact ⟨by simp only [tupled]; (rw [eh, h5]; rfl), rfl⟩)
set_option maxHeartbeats 4000000 in
theorem node_leaf (v : Value) (E : List ENT) : SpecR Try.prog 106 #[v] (fun w => RdW w v E.length (EL E)) (fun r H' => r = .bool (leafB E) ∧ H' = []) := by
  refine SpecR.of (fun w hr => ?_)
  have hlen := hr.le
  refine Calls.enter Try.func106 rfl rfl rfl (St.rebase w) ?_
  simp only [argSlots]
  (refine Tri.seq (Tri.region ?_); apply Tri.op; rfl; apply o_assign; rfl; rfl; refine Tri.nil (Tri.thenN (Tri.seq (Tri.seq (Tri.region ?_)))); apply Tri.op; rfl; apply o_move; rfl; rfl; apply Tri.op; rfl)
  (apply o_lenRd (hr := hr); (case hx => rfl); (case hn => rfl))
  (apply Tri.op; rfl; apply o_move; rfl; rfl; refine Tri.nil (Tri.thenN (Tri.block ?_)))
  (apply Tri.loop (α := { i : Nat // i ≤ E.length ∧ entsTo E i = true }) (m := fun x => E.length - x.1) (Lx := fun x => [(0, v), (6, v), (7, .int .i64 (E.length : Int)), (8, .int .i64 (x.1 : Int))]) (Hx := fun x => [Ex (hp w)]) (x0 := ⟨0, Nat.zero_le _, rfl⟩); (case hL => ((try dsimp only); (repeat (first | exact trivial | refine And.intro (by rfl) ?_)))); (case hH => ((try dsimp only); apply St.all; (repeat first | with_reducible constructor | constructor)))); (rintro ⟨i, hi, hE⟩ mx hmx; (try dsimp only at hmx ⊢))
  (refine Tri.seq (Tri.region ?_); apply Tri.op; rfl; apply o_lss; rfl; rfl; rfl; refine Tri.nil (Tri.thenN (Tri.seq ?_)))
  (apply Tri.condD; (case hc => rfl); (all_goals intro h))
  · have hil : i < E.length := by omega
    obtain ⟨e, he⟩ : ∃ e, e = E.getD i ent0 := ⟨_, rfl⟩
    have h8 := EL_eight E i hil
    rw [← he] at h8
    (refine Tri.skip (Tri.thenN (Tri.seq (Tri.block (Tri.seq (Tri.region ?_))))); apply Tri.op; rfl; apply o_move; rfl; rfl; apply Tri.op; rfl)
    (apply o_ixRd (hr := hr) (j := i); (case hx => rfl); (case hy => rfl); (case hj => rfl); (case hlt => exact hil); (case hl => (rw [EL_length]; omega)); (case hn => rfl))
    (apply Tri.op; rfl)
    (apply o_loadAggRd (hr := hr); (case hx => rfl); (case p => (with_reducible repeat constructor)); (case hv => exact h8); (case hl => rfl); (case hn => rfl))
    (apply Tri.op; rfl)
    (apply o_alloc; (case hn => rfl); intro b4)
    (apply Tri.op; rfl; apply o_assign; rfl; rfl; apply Tri.op; rfl)
    (apply o_storeAll (ys := entL e); (case hx => rfl); (case hy => rfl); (case p => (with_reducible repeat constructor)); (case hl => rfl); (case hc => rfl); (case h1 => exact entL_one _))
    (refine Tri.nil (Tri.thenN (Tri.seq (Tri.seq (Tri.region ?_)))); apply Tri.op; rfl)
    (apply o_loadAll (cs := entL e); (case hx => rfl); (case p => (with_reducible repeat constructor)); (case hl => rfl); (case hn => rfl))
    (apply Tri.op; rfl)
    (apply o_callV (hs := node_rightEntry e); (case hargs => (repeat first | exact evs.nil | (apply evs.cons; case a => rfl))); (case hpre => exact fun _ _ => trivial); (case hn => rfl))
    (apply Tri.op; rfl; apply o_not; rfl; rfl; refine Tri.nil (Tri.thenN ?_))
    (apply Tri.cond; (case hc => rfl); (all_goals intro g1))
    · have g1' : entOk e = false := by simpa using g1
      (refine Tri.seq (Tri.region ?_); apply Tri.op; rfl; apply o_assign; rfl; rfl; refine Tri.nil (Tri.thenN (Tri.ret (Tri.thenR (Tri.blockR (Tri.thenR (Tri.thenR (Tri.blockR (Tri.thenR ?_)))))))))
      (apply Tri.fin; (case hr => rfl); (case h => exact ResL.cons (Res1.tmp rfl) (ResL.nil)); (apply fin_R (Hn := [])); (case p => exact (by (repeat first | with_reducible constructor | constructor))); exact ⟨by simp only [tupled]; (rw [leaf_no (entAt_lt (by rw [entAt, ← he, g1']; rfl) hil)]), rfl⟩)
    · have g1' : entOk e = true := by simpa using g1
      (refine Tri.skip (Tri.thenN (Tri.seq (Tri.seq (Tri.region ?_)))); apply Tri.op; rfl; apply o_move; rfl; rfl; apply Tri.op; rfl; apply o_eql; rfl; rfl; rfl; refine Tri.nil (Tri.thenN ?_))
      (apply Tri.condD; (case hc => rfl); (all_goals intro g2))
      · have hnx : entsTo E (i + 1) = true := by rw [entsTo, hE, entAt, ← he, g1', decide_eq_true (show i = 0 by omega)]; simp
        ((with_reducible refine Tri.exit (Tri.thenE (Tri.blockE (Tri.thenN (Tri.region ?_))))); apply Tri.op; rfl; apply o_add64; rfl; rfl; rfl; (omega); apply Tri.op; rfl; apply o_move; rfl; rfl; refine Tri.nil (Tri.thenN ?_))
        (apply Tri.again (y := ⟨i + 1, by omega, hnx⟩); (case p => ((try dsimp only); (repeat (first | exact Pulls.nil | (apply Pulls.cons; (case a => (first | ((repeat (first | with_reducible exact Gv.Pull.head | with_reducible apply Gv.Pull.tail)); done) | (repeat (first | exact Gv.Pull.head | apply Gv.Pull.tail))))))))); (case hm => ((try dsimp only); omega)); (try dsimp only))
        (repeat (first | exact trivial | refine And.intro (by rfl) ?_))
      · obtain ⟨p, hp0⟩ : ∃ e, e = E.getD (i - 1) ent0 := ⟨_, rfl⟩
        have h8p := EL_eight E (i - 1) (by omega)
        rw [← hp0] at h8p
        have eat : entAt E i = afterE p e := by rw [entAt, ← he, ← hp0, g1', decide_eq_false (show ¬ i = 0 by omega)]; simp
        (refine Tri.skip (Tri.thenN (Tri.seq (Tri.region ?_))); apply Tri.op; rfl; apply o_move; rfl; rfl; apply Tri.op; rfl; apply o_move; rfl; rfl; apply Tri.op; rfl; apply o_sub64; rfl; rfl; rfl; (omega); apply Tri.op; rfl)
        (apply o_ixRd (hr := hr) (j := i - 1); (case hx => rfl); (case hy => rfl); (case hj => omega); (case hlt => omega); (case hl => (rw [EL_length]; omega)); (case hn => rfl))
        (apply Tri.op; rfl)
        (apply o_loadAggRd (hr := hr); (case hx => rfl); (case p => (with_reducible repeat constructor)); (case hv => exact h8p); (case hl => rfl); (case hn => rfl))
        (apply Tri.op; rfl)
        (apply o_alloc; (case hn => rfl); intro b5)
        (apply Tri.op; rfl)
        (apply o_storeAll (ys := entL p); (case hx => rfl); (case hy => rfl); (case p => (with_reducible repeat constructor)); (case hl => rfl); (case hc => rfl); (case h1 => exact entL_one _))
        (refine Tri.nil (Tri.thenN (Tri.seq (Tri.region ?_))); apply Tri.op; rfl; apply o_fieldAddr; rfl; rfl; apply Tri.op; rfl)
        (apply o_loadAgg (ys := keyL p.key); (case hx => rfl); (case p => exact (by exact Pull.head)); (case hv => rfl); (case hl => rfl); (case hn => rfl))
        (apply Tri.op; rfl; apply o_fieldAddr; rfl; rfl; apply Tri.op; rfl)
        (apply o_loadAgg (ys := keyL e.key); (case hx => rfl); (case p => (with_reducible repeat constructor)); (case hv => rfl); (case hl => rfl); (case hn => rfl))
        (apply Tri.op; rfl)
        (apply o_callV (hs := node_Less p.key e.key); (case hargs => (repeat first | exact evs.nil | (apply evs.cons; case a => rfl))); (case hpre => exact fun _ _ => trivial); (case hn => rfl))
        (apply Tri.op; rfl; apply o_not; rfl; rfl; apply Tri.op; rfl; apply o_move; rfl; rfl)
        ((with_reducible apply Tri.casesB 29); (case h => rfl); (all_goals intro g3))
        · have g3' : lessK p.key e.key = false := by simpa using g3
          ((iterate 8 apply Tri.opNo (c := true); (iterate 6 rfl)); (iterate 6 apply Tri.opNoU; (iterate 4 rfl)); apply Tri.opNo (c := true); (iterate 6 rfl); apply Tri.op; rfl; apply o_pickT; (iterate 4 rfl); refine Tri.nil (Tri.thenN ?_); apply Tri.condT; rfl; rfl; refine Tri.seq (Tri.region ?_); apply Tri.op; rfl; apply o_assign; rfl; rfl; refine Tri.nil (Tri.thenN (Tri.ret (Tri.blockR (Tri.thenR (Tri.thenR (Tri.blockR (Tri.thenR ?_))))))))
          (apply Tri.fin; (case hr => rfl); (case h => exact ResL.cons (Res1.tmp rfl) (ResL.nil)); (apply fin_R (Hn := [])); (case p => exact (by (repeat first | with_reducible constructor | constructor))); exact ⟨by simp only [tupled]; (rw [leaf_no (entAt_lt (by rw [eat, afterE, g3']; rfl) hil)]), rfl⟩)
        · have g3' : lessK p.key e.key = true := by simpa using g3
          (apply Tri.opYes; rfl; rfl; rfl; apply o_fieldAddr; rfl; rfl; apply Tri.opYes; rfl; rfl; rfl; apply o_fieldAddr; rfl; rfl; apply Tri.opYes; rfl; rfl; rfl; apply o_load; rfl; (with_reducible repeat constructor); rfl; rfl; apply Tri.opYes; rfl; rfl; rfl; apply o_fieldAddr; rfl; rfl; apply Tri.opYes; rfl; rfl; rfl; apply o_fieldAddr; rfl; rfl; apply Tri.opYes; rfl; rfl; rfl; apply o_load; rfl; (with_reducible repeat constructor); rfl; rfl; apply Tri.opYes; rfl; rfl; rfl; apply o_eql; rfl; rfl; rfl; apply Tri.opYes; rfl; rfl; rfl; apply o_move; rfl; rfl)
          ((with_reducible apply Tri.casesB 37); (case h => rfl); (all_goals intro g4))
          · have g4' := of_decide_eq_true g4
            (apply Tri.opYes; rfl; rfl; rfl; apply o_fieldAddr; rfl; rfl; apply Tri.opYes; rfl; rfl; rfl; apply o_load; rfl; (with_reducible repeat constructor); rfl; rfl; apply Tri.opYes; rfl; rfl; rfl; apply o_fieldAddr; rfl; rfl; apply Tri.opYes; rfl; rfl; rfl; apply o_fieldAddr; rfl; rfl; apply Tri.opYes; rfl; rfl; rfl; apply o_load; rfl; (with_reducible repeat constructor); rfl; rfl; apply Tri.opYes; rfl; rfl; rfl; apply o_geq; rfl; rfl; rfl; apply Tri.opYes; rfl; rfl; rfl; apply o_pickT; (iterate 4 rfl); apply Tri.op; rfl; apply o_pickF; (iterate 4 rfl); refine Tri.nil (Tri.thenN ?_))
            (apply Tri.condD; (case hc => rfl); (all_goals intro g5))
            · (refine Tri.seq (Tri.region ?_); apply Tri.op; rfl; apply o_assign; rfl; rfl; refine Tri.nil (Tri.thenN (Tri.ret (Tri.blockR (Tri.thenR (Tri.thenR (Tri.blockR (Tri.thenR ?_))))))))
              (apply Tri.fin; (case hr => rfl); (case h => exact ResL.cons (Res1.tmp rfl) (ResL.nil)); (apply fin_R (Hn := [])); (case p => exact (by (repeat first | with_reducible constructor | constructor))); exact ⟨by simp only [tupled]; (rw [leaf_no (entAt_lt (by rw [eat, afterE, g3', decide_eq_true g4', decide_eq_true (show e.key.2 ≤ p.fin by omega)]; rfl) hil)]), rfl⟩)
            · have hnx : entsTo E (i + 1) = true := by rw [entsTo, hE, eat, afterE, g3', decide_eq_true g4', decide_eq_false (show ¬ e.key.2 ≤ p.fin by omega)]; rfl
              (refine Tri.skip (Tri.blockN (Tri.thenN (Tri.region ?_))); apply Tri.op; rfl; apply o_add64; rfl; rfl; rfl; (omega); apply Tri.op; rfl; apply o_move; rfl; rfl; refine Tri.nil (Tri.thenN ?_))
              (apply Tri.again (y := ⟨i + 1, by omega, hnx⟩); (case p => ((try dsimp only); (repeat (first | exact Pulls.nil | (apply Pulls.cons; (case a => (first | ((repeat (first | with_reducible exact Gv.Pull.head | with_reducible apply Gv.Pull.tail)); done) | (repeat (first | exact Gv.Pull.head | apply Gv.Pull.tail))))))))); (case hm => ((try dsimp only); omega)); (try dsimp only))
              (repeat (first | exact trivial | refine And.intro (by rfl) ?_))
          · have g4' := of_decide_eq_false g4
            have hnx : entsTo E (i + 1) = true := by rw [entsTo, hE, eat, afterE, g3', decide_eq_false g4']; rfl
            ((iterate 6 apply Tri.opNo (c := false); (iterate 6 rfl)); apply Tri.opYes; rfl; rfl; rfl; apply o_pickF; (iterate 4 rfl); apply Tri.op; rfl; apply o_pickF; (iterate 4 rfl); refine Tri.nil (Tri.thenN ?_); apply Tri.condF; rfl; rfl; refine Tri.skip (Tri.blockN (Tri.thenN (Tri.region ?_))); apply Tri.op; rfl; apply o_add64; rfl; rfl; rfl; (omega); apply Tri.op; rfl; apply o_move; rfl; rfl; refine Tri.nil (Tri.thenN ?_))
            (apply Tri.again (y := ⟨i + 1, by omega, hnx⟩); (case p => ((try dsimp only); (repeat (first | exact Pulls.nil | (apply Pulls.cons; (case a => (first | ((repeat (first | with_reducible exact Gv.Pull.head | with_reducible apply Gv.Pull.tail)); done) | (repeat (first | exact Gv.Pull.head | apply Gv.Pull.tail))))))))); (case hm => ((try dsimp only); omega)); (try dsimp only))
            (repeat (first | exact trivial | refine And.intro (by rfl) ?_))
  · obtain rfl : i = E.length := by omega
    ((with_reducible refine Tri.exit (Tri.thenE (Tri.thenE (Tri.blockE (Tri.thenN (Tri.seq (Tri.region ?_))))))); apply Tri.op; rfl; apply o_move; rfl; rfl; apply Tri.op; rfl)
    (apply o_lenRd (hr := hr); (case hx => rfl); (case hn => rfl))
    (apply Tri.op; rfl)
    (apply o_callV (hs := node_between (E.length : Int) 1 7); (case hargs => (repeat first | exact evs.nil | (apply evs.cons; case a => rfl))); (case hpre => exact fun _ _ => trivial); (case hn => rfl))
    (apply Tri.op; rfl; apply o_assign; rfl; rfl; refine Tri.nil (Tri.thenN (Tri.ret ?_)))
    (apply Tri.fin; (case hr => rfl); (case h => exact ResL.cons (Res1.tmp rfl) (ResL.nil)); (apply fin_R (Hn := [])); (case p => exact (by (repeat first | with_reducible constructor | constructor))); exact ⟨by simp only [tupled]; (rw [leafB, hE]; rfl), rfl⟩)
def ndR (w : World) (ev kv dv : Value) (E : List ENT) (K : List KEY) (D : List Int) : Prop := RdW w ev E.length (EL E) ∧ RdW w kv K.length (KL K) ∧ RdW w dv D.length (NL D)
theorem ndR_ex {w0 : World} {H H1 : List Atom} {h0 : PH} {ev kv dv : Value} {E : List ENT} {K : List KEY} {D : List Int} (p : Pull H (Ex h0) H1) (h1 : Rd h0 ev E.length (EL E)) (h2 : Rd h0 kv K.length (KL K)) (h3 : Rd h0 dv D.length (NL D)) : ∀ w, St w0 w H → ndR w ev kv dv E K D := fun w hw => ⟨rdw_ex p h1 w hw, rdw_ex p h2 w hw, rdw_ex p h3 w hw⟩
set_option maxHeartbeats 4000000 in
theorem node_Right (leaf : Bool) (ev kv dv : Value) (E : List ENT) (K : List KEY) (D : List Int) : SpecR Try.prog 74 #[ndW leaf ev kv dv] (fun w => ndR w ev kv dv E K D) (fun r H' => r = .bool (rightN leaf E K D) ∧ H' = []) := by
  refine SpecR.of (fun w hrr => ?_)
  obtain ⟨hr0, hr1, hr2⟩ := hrr
  refine Calls.enter Try.func74 rfl rfl rfl (St.rebase w) ?_
  simp only [argSlots]
  (refine Tri.seq (Tri.region ?_); apply Tri.op; rfl)
  (first | (apply o_boxA; (case hx => rfl); (case hn => rfl); intro b1) | (apply o_box1; (case hx => rfl); (case h1 => rfl); (case hn => rfl); intro b1))
  (apply Tri.op; rfl; apply o_assign; rfl; rfl; refine Tri.nil (Tri.thenN (Tri.seq (Tri.seq (Tri.region ?_)))); apply Tri.op; rfl; apply o_fieldAddr; rfl; rfl; apply Tri.op; rfl; apply o_load; rfl; (with_reducible repeat constructor); rfl; rfl; refine Tri.nil (Tri.thenN ?_))
  (apply Tri.cond; (case hc => rfl); (all_goals intro hlf))
  · subst hlf
    (refine Tri.seq (Tri.region ?_); apply Tri.op; rfl; apply o_fieldAddr; rfl; rfl; apply Tri.op; rfl; apply o_load; rfl; (with_reducible repeat constructor); rfl; rfl; apply Tri.op; rfl)
    (apply o_lenRd (hr := hr1); (case hx => rfl); (case hn => rfl))
    (apply Tri.op; rfl; apply o_eql; rfl; rfl; rfl; apply Tri.op; rfl; apply o_move; rfl; rfl)
    ((with_reducible apply Tri.casesB 9); (case h => rfl); (all_goals intro g1))
    · (apply Tri.opYes; rfl; rfl; rfl; apply o_fieldAddr; rfl; rfl; apply Tri.opYes; rfl; rfl; rfl; apply o_load; rfl; (with_reducible repeat constructor); rfl; rfl; apply Tri.opYes; rfl; rfl; rfl)
      (apply o_lenRd (hr := hr2); (case hx => rfl); (case hn => rfl))
      (apply Tri.opYes; rfl; rfl; rfl; apply o_eql; rfl; rfl; rfl; apply Tri.op; rfl; apply o_pickT; (iterate 4 rfl); apply Tri.op; rfl; apply o_move; rfl; rfl)
      ((with_reducible apply Tri.casesB 15); (case h => rfl); (all_goals intro g2))
      · (apply Tri.opYes; rfl; rfl; rfl; apply o_fieldAddr; rfl; rfl; apply Tri.opYes; rfl; rfl; rfl; apply o_load; rfl; (with_reducible repeat constructor); rfl; rfl; apply Tri.opYes; rfl; rfl; rfl)
        (apply o_callV (hs := node_leaf ev E); (case hargs => (repeat first | exact evs.nil | (apply evs.cons; case a => rfl))); (case hpre => exact rdw_ex (by (with_reducible repeat constructor)) hr0); (case hn => rfl))
        (apply Tri.op; rfl; apply o_pickT; (iterate 4 rfl); apply Tri.op; rfl; apply o_assign; rfl; rfl; refine Tri.nil (Tri.thenN (Tri.ret (Tri.thenR ?_))))
        (apply Tri.fin; (case hr => rfl); (case h => exact ResL.cons (Res1.tmp rfl) (ResL.nil)); (apply fin_R (Hn := [])); (case p => exact (by (repeat first | with_reducible constructor | constructor))); exact ⟨by simp only [tupled]; (rw [rightN, if_pos rfl, decide_eq_true (show K.length = 0 by have := of_decide_eq_true g1; omega), decide_eq_true (show D.length = 0 by have := of_decide_eq_true g2; omega)]; rfl), rfl⟩)
      · ((iterate 3 apply Tri.opNo (c := false); (iterate 6 rfl)); apply Tri.op; rfl; apply o_pickF; (iterate 4 rfl); apply Tri.op; rfl; apply o_assign; rfl; rfl; refine Tri.nil (Tri.thenN (Tri.ret (Tri.thenR ?_))))
        (apply Tri.fin; (case hr => rfl); (case h => exact ResL.cons (Res1.tmp rfl) (ResL.nil)); (apply fin_R (Hn := [])); (case p => exact (by (repeat first | with_reducible constructor | constructor))); exact ⟨by simp only [tupled]; (rw [rightN, if_pos rfl, decide_eq_false (show ¬ D.length = 0 by have := of_decide_eq_false g2; omega), Bool.false_and, Bool.and_false]), rfl⟩)
    · ((iterate 4 apply Tri.opNo (c := false); (iterate 6 rfl)); apply Tri.op; rfl; apply o_pickF; (iterate 4 rfl); apply Tri.op; rfl; apply o_move; rfl; rfl; (iterate 3 apply Tri.opNo (c := false); (iterate 6 rfl)); apply Tri.op; rfl; apply o_pickF; (iterate 4 rfl); apply Tri.op; rfl; apply o_assign; rfl; rfl; refine Tri.nil (Tri.thenN (Tri.ret (Tri.thenR ?_))))
      (apply Tri.fin; (case hr => rfl); (case h => exact ResL.cons (Res1.tmp rfl) (ResL.nil)); (apply fin_R (Hn := [])); (case p => exact (by (repeat first | with_reducible constructor | constructor))); exact ⟨by simp only [tupled]; (rw [rightN, if_pos rfl, decide_eq_false (show ¬ K.length = 0 by have := of_decide_eq_false g1; omega), Bool.false_and]), rfl⟩)
  · subst hlf
    (refine Tri.skip (Tri.thenN (Tri.seq (Tri.region ?_))); apply Tri.op; rfl; apply o_fieldAddr; rfl; rfl; apply Tri.op; rfl; apply o_load; rfl; (with_reducible repeat constructor); rfl; rfl; apply Tri.op; rfl)
    (apply o_lenRd (hr := hr0); (case hx => rfl); (case hn => rfl))
    (apply Tri.op; rfl; apply o_eql; rfl; rfl; rfl; apply Tri.op; rfl; apply o_move; rfl; rfl)
    ((with_reducible apply Tri.casesB 24); (case h => rfl); (all_goals intro g1))
    · (apply Tri.opYes; rfl; rfl; rfl; apply o_fieldAddr; rfl; rfl; apply Tri.opYes; rfl; rfl; rfl; apply o_load; rfl; (with_reducible repeat constructor); rfl; rfl; apply Tri.opYes; rfl; rfl; rfl; apply o_fieldAddr; rfl; rfl; apply Tri.opYes; rfl; rfl; rfl; apply o_load; rfl; (with_reducible repeat constructor); rfl; rfl; apply Tri.opYes; rfl; rfl; rfl)
      (apply o_callV (hs := node_inner kv dv K D); (case hargs => (repeat first | exact evs.nil | (apply evs.cons; case a => rfl))); (case hpre => exact fun w' hw' => ⟨rdw_ex (by (with_reducible repeat constructor)) hr1 w' hw', rdw_ex (by (with_reducible repeat constructor)) hr2 w' hw'⟩); (case hn => rfl))
      (apply Tri.op; rfl; apply o_pickT; (iterate 4 rfl); apply Tri.op; rfl; apply o_assign; rfl; rfl; refine Tri.nil (Tri.thenN (Tri.ret ?_)))
      (apply Tri.fin; (case hr => rfl); (case h => exact ResL.cons (Res1.tmp rfl) (ResL.nil)); (apply fin_R (Hn := [])); (case p => exact (by (repeat first | with_reducible constructor | constructor))); exact ⟨by simp only [tupled]; (rw [rightN, if_neg (by simp), decide_eq_true (show E.length = 0 by have := of_decide_eq_true g1; omega)]; rfl), rfl⟩)
    · ((iterate 5 apply Tri.opNo (c := false); (iterate 6 rfl)); apply Tri.op; rfl; apply o_pickF; (iterate 4 rfl); apply Tri.op; rfl; apply o_assign; rfl; rfl; refine Tri.nil (Tri.thenN (Tri.ret ?_)))
      (apply Tri.fin; (case hr => rfl); (case h => exact ResL.cons (Res1.tmp rfl) (ResL.nil)); (apply fin_R (Hn := [])); (case p => exact (by (repeat first | with_reducible constructor | constructor))); exact ⟨by simp only [tupled]; (rw [rightN, if_neg (by simp), decide_eq_false (show ¬ E.length = 0 by have := of_decide_eq_false g1; omega), Bool.false_and]), rfl⟩)
def sizeN (leaf : Bool) (E : List ENT) (D : List Int) : Nat := if leaf then E.length else D.length
set_option maxHeartbeats 1000000 in
theorem node_Size (leaf : Bool) (ev kv dv : Value) (E : List ENT) (K : List KEY) (D : List Int) : SpecR Try.prog 13 #[ndW leaf ev kv dv] (fun w => ndR w ev kv dv E K D) (fun r H' => r = .int .i64 (sizeN leaf E D : Int) ∧ H' = []) := by
  refine SpecR.of (fun w hrr => ?_)
  obtain ⟨hr0, hr1, hr2⟩ := hrr
  refine Calls.enter Try.func13 rfl rfl rfl (St.rebase w) ?_
  simp only [argSlots]
  (refine Tri.seq (Tri.region ?_); apply Tri.op; rfl)
  (first | (apply o_boxA; (case hx => rfl); (case hn => rfl); intro b1) | (apply o_box1; (case hx => rfl); (case h1 => rfl); (case hn => rfl); intro b1))
  (apply Tri.op; rfl; apply o_assign; rfl; rfl; refine Tri.nil (Tri.thenN (Tri.seq (Tri.seq (Tri.region ?_)))); apply Tri.op; rfl; apply o_fieldAddr; rfl; rfl; apply Tri.op; rfl; apply o_load; rfl; (with_reducible repeat constructor); rfl; rfl; refine Tri.nil (Tri.thenN ?_))
  (apply Tri.cond; (case hc => rfl); (all_goals intro hlf))
  · subst hlf
    (refine Tri.seq (Tri.region ?_); apply Tri.op; rfl; apply o_fieldAddr; rfl; rfl; apply Tri.op; rfl; apply o_load; rfl; (with_reducible repeat constructor); rfl; rfl; apply Tri.op; rfl)
    (apply o_lenRd (hr := hr0); (case hx => rfl); (case hn => rfl))
    (apply Tri.op; rfl; apply o_assign; rfl; rfl; refine Tri.nil (Tri.thenN (Tri.ret (Tri.thenR ?_))))
    (apply Tri.fin; (case hr => rfl); (case h => exact ResL.cons (Res1.tmp rfl) (ResL.nil)); (apply fin_R (Hn := [])); (case p => exact (by (repeat first | with_reducible constructor | constructor))); exact ⟨by simp only [tupled]; rfl, rfl⟩)
  · subst hlf
    (refine Tri.skip (Tri.thenN (Tri.seq (Tri.region ?_))); apply Tri.op; rfl; apply o_fieldAddr; rfl; rfl; apply Tri.op; rfl; apply o_load; rfl; (with_reducible repeat constructor); rfl; rfl; apply Tri.op; rfl)
    (apply o_lenRd (hr := hr2); (case hx => rfl); (case hn => rfl))
    (apply Tri.op; rfl; apply o_assign; rfl; rfl; refine Tri.nil (Tri.thenN (Tri.ret ?_)))
    (apply Tri.fin; (case hr => rfl); (case h => exact ResL.cons (Res1.tmp rfl) (ResL.nil)); (apply fin_R (Hn := [])); (case p => exact (by (repeat first | with_reducible constructor | constructor))); exact ⟨by simp only [tupled]; rfl, rfl⟩)
def leastN (leaf : Bool) (E : List ENT) (K : List KEY) : KEY := if leaf then (E.getD 0 ent0).key else K.getD 0 (0, 0)
set_option maxHeartbeats 4000000 in
theorem node_Least (leaf : Bool) (ev kv dv : Value) (E : List ENT) (K : List KEY) (D : List Int) : SpecR Try.prog 130 #[ndW leaf ev kv dv] (fun w => ndR w ev kv dv E K D) (fun r H' => r = keyV (leastN leaf E K) ∧ H' = []) := by
  refine SpecR.of (fun w hrr => ?_)
  obtain ⟨hr0, hr1, hr2⟩ := hrr
  refine Calls.enter Try.func130 rfl rfl rfl (St.rebase w) ?_
  simp only [argSlots]
  (refine Tri.seq (Tri.region ?_); apply Tri.op; rfl)
  (first | (apply o_boxA; (case hx => rfl); (case hn => rfl); intro b1) | (apply o_box1; (case hx => rfl); (case h1 => rfl); (case hn => rfl); intro b1))
  (apply Tri.op; rfl)
  (apply o_alloc; (case hn => rfl); intro b2)
  (refine Tri.nil (Tri.thenN (Tri.seq (Tri.block (Tri.seq (Tri.region ?_))))); apply Tri.op; rfl; apply o_fieldAddr; rfl; rfl; apply Tri.op; rfl; apply o_load; rfl; (with_reducible repeat constructor); rfl; rfl; apply Tri.op; rfl; apply o_move; rfl; rfl)
  ((with_reducible apply Tri.casesB 6); (case h => rfl); (all_goals intro hlf))
  · subst hlf
    (apply Tri.opYes; rfl; rfl; rfl; apply o_fieldAddr; rfl; rfl; apply Tri.opYes; rfl; rfl; rfl; apply o_load; rfl; (with_reducible repeat constructor); rfl; rfl; apply Tri.opYes; rfl; rfl; rfl)
    (apply o_lenRd (hr := hr0); (case hx => rfl); (case hn => rfl))
    (apply Tri.opYes; rfl; rfl; rfl; apply o_gtr; rfl; rfl; rfl; apply Tri.op; rfl; apply o_pickT; (iterate 4 rfl); apply Tri.op; rfl; apply o_assign; rfl; rfl; refine Tri.nil (Tri.thenN ?_))
    (apply Tri.condD; (case hc => rfl); (all_goals intro g1))
    · have g1' : 0 < E.length := by omega
      (refine Tri.seq (Tri.region ?_); apply Tri.op; rfl; apply o_fieldAddr; rfl; rfl; apply Tri.op; rfl; apply o_load; rfl; (with_reducible repeat constructor); rfl; rfl; apply Tri.op; rfl)
      (apply o_ixRd (hr := hr0) (j := 0); (case hx => rfl); (case hy => rfl); (case hj => rfl); (case hlt => exact g1'); (case hl => (rw [EL_length]; omega)); (case hn => rfl))
      (apply Tri.op; rfl; apply o_fieldE; rfl; rfl; apply Tri.op; rfl)
      (apply o_loadAggRd (hr := hr0) (ys := keyL (E.getD 0 ent0).key); (case hx => rfl); (case p => (with_reducible repeat constructor)); (case hv => exact EL_key E 0 g1'); (case hl => rfl); (case hn => rfl))
      (apply Tri.op; rfl)
      (apply o_storeAll (ys := keyL (E.getD 0 ent0).key); (case hx => rfl); (case hy => rfl); (case p => (with_reducible repeat constructor)); (case hl => rfl); (case hc => rfl); (case h1 => exact keyL_one _))
      (refine Tri.nil (Tri.thenN (Tri.ret (Tri.blockR (Tri.thenR ?_)))))
      (apply Tri.fin; (case hr => rfl); (case h => exact ResL.cons ((Res1.agg rfl (by (with_reducible repeat constructor)) (by rw [List.drop_zero]; exact List.take_of_length_le (Nat.le_of_eq (show (keyL (E.getD 0 ent0).key).length = 2 from rfl))) (show (keyL (E.getD 0 ent0).key).length = 2 from rfl))) (ResL.nil)); (apply fin_R (Hn := [])); (case p => exact (by (repeat first | with_reducible constructor | constructor))); exact ⟨rfl, rfl⟩)
    · have g1' : E = [] := List.eq_nil_of_length_eq_zero (by omega)
      subst g1'
      (refine Tri.seq (Tri.region ?_); apply Tri.op; rfl; apply o_fieldAddr; rfl; rfl; apply Tri.op; rfl; apply o_load; rfl; (with_reducible repeat constructor); rfl; rfl; apply Tri.op; rfl; apply o_not; rfl; rfl; apply Tri.op; rfl; apply o_move; rfl; rfl)
      ((with_reducible apply Tri.setb 21 (false)); (case h => rfl); (case hi => rfl))
      ((iterate 4 apply Tri.opNo (c := false); (iterate 6 rfl)); apply Tri.op; rfl; apply o_pickF; (iterate 4 rfl); apply Tri.op; rfl; apply o_assign; rfl; rfl; refine Tri.nil (Tri.thenN ?_); apply Tri.condF; rfl; rfl; refine Tri.skip (Tri.blockN (Tri.thenN (Tri.seq (Tri.region ?_)))); apply Tri.op; rfl; apply o_build0; rfl; apply Tri.op; rfl)
      (apply o_storeAll (ys := keyL (0, 0)); (case hx => rfl); (case hy => rfl); (case p => (with_reducible repeat constructor)); (case hl => rfl); (case hc => rfl); (case h1 => exact keyL_one _))
      (refine Tri.nil (Tri.thenN (Tri.ret ?_)))
      (apply Tri.fin; (case hr => rfl); (case h => exact ResL.cons ((Res1.agg rfl (by (with_reducible repeat constructor)) (by rw [List.drop_zero]; exact List.take_of_length_le (Nat.le_of_eq (show (keyL (0, 0)).length = 2 from rfl))) (show (keyL (0, 0)).length = 2 from rfl))) (ResL.nil)); (apply fin_R (Hn := [])); (case p => exact (by (repeat first | with_reducible constructor | constructor))); exact ⟨rfl, rfl⟩)
  · subst hlf
    ((iterate 4 apply Tri.opNo (c := false); (iterate 6 rfl)); apply Tri.op; rfl; apply o_pickF; (iterate 4 rfl); apply Tri.op; rfl; apply o_assign; rfl; rfl; refine Tri.nil (Tri.thenN ?_); apply Tri.condF; rfl; rfl; refine Tri.seq (Tri.region ?_); apply Tri.op; rfl; apply o_fieldAddr; rfl; rfl; apply Tri.op; rfl; apply o_load; rfl; (with_reducible repeat constructor); rfl; rfl; apply Tri.op; rfl; apply o_not; rfl; rfl; apply Tri.op; rfl; apply o_move; rfl; rfl)
    ((with_reducible apply Tri.setb 21 (true)); (case h => rfl); (case hi => rfl))
    (apply Tri.opYes; rfl; rfl; rfl; apply o_fieldAddr; rfl; rfl; apply Tri.opYes; rfl; rfl; rfl; apply o_load; rfl; (with_reducible repeat constructor); rfl; rfl; apply Tri.opYes; rfl; rfl; rfl)
    (apply o_lenRd (hr := hr1); (case hx => rfl); (case hn => rfl))
    (apply Tri.opYes; rfl; rfl; rfl; apply o_gtr; rfl; rfl; rfl; apply Tri.op; rfl; apply o_pickT; (iterate 4 rfl); apply Tri.op; rfl; apply o_assign; rfl; rfl; refine Tri.nil (Tri.thenN ?_))
    (apply Tri.condD; (case hc => rfl); (all_goals intro g1))
    · have g1' : 0 < K.length := by omega
      (refine Tri.seq (Tri.region ?_); apply Tri.op; rfl; apply o_fieldAddr; rfl; rfl; apply Tri.op; rfl; apply o_load; rfl; (with_reducible repeat constructor); rfl; rfl; apply Tri.op; rfl)
      (apply o_ixRd (hr := hr1) (j := 0); (case hx => rfl); (case hy => rfl); (case hj => rfl); (case hlt => exact g1'); (case hl => (rw [KL_length]; omega)); (case hn => rfl))
      (apply Tri.op; rfl)
      (apply o_loadAggRd (hr := hr1) (ys := keyL (K.getD 0 (0, 0))); (case hx => rfl); (case p => (with_reducible repeat constructor)); (case hv => exact KL_two K 0 g1'); (case hl => rfl); (case hn => rfl))
      (apply Tri.op; rfl)
      (apply o_storeAll (ys := keyL (K.getD 0 (0, 0))); (case hx => rfl); (case hy => rfl); (case p => (with_reducible repeat constructor)); (case hl => rfl); (case hc => rfl); (case h1 => exact keyL_one _))
      (refine Tri.nil (Tri.thenN (Tri.ret (Tri.blockR (Tri.thenR ?_)))))
      (apply Tri.fin; (case hr => rfl); (case h => exact ResL.cons ((Res1.agg rfl (by (with_reducible repeat constructor)) (by rw [List.drop_zero]; exact List.take_of_length_le (Nat.le_of_eq (show (keyL (K.getD 0 (0, 0))).length = 2 from rfl))) (show (keyL (K.getD 0 (0, 0))).length = 2 from rfl))) (ResL.nil)); (apply fin_R (Hn := [])); (case p => exact (by (repeat first | with_reducible constructor | constructor))); exact ⟨rfl, rfl⟩)
    · have g1' : K = [] := List.eq_nil_of_length_eq_zero (by omega)
      subst g1'
      (refine Tri.skip (Tri.blockN (Tri.thenN (Tri.seq (Tri.region ?_)))); apply Tri.op; rfl; apply o_build0; rfl; apply Tri.op; rfl)
      (apply o_storeAll (ys := keyL (0, 0)); (case hx => rfl); (case hy => rfl); (case p => (with_reducible repeat constructor)); (case hl => rfl); (case hc => rfl); (case h1 => exact keyL_one _))
      (refine Tri.nil (Tri.thenN (Tri.ret ?_)))
      (apply Tri.fin; (case hr => rfl); (case h => exact ResL.cons ((Res1.agg rfl (by (with_reducible repeat constructor)) (by rw [List.drop_zero]; exact List.take_of_length_le (Nat.le_of_eq (show (keyL (0, 0)).length = 2 from rfl))) (show (keyL (0, 0)).length = 2 from rfl))) (ResL.nil)); (apply fin_R (Hn := [])); (case p => exact (by (repeat first | with_reducible constructor | constructor))); exact ⟨rfl, rfl⟩)
end Go.Proofs.Ytckdlfbbkemklaa
end
section
/- node: Put of any node; an entry that is read. -/
namespace Go.Proofs.Ytckdlfbbkemklaa
open Go Go.RowKit Go.Gv
set_option linter.unusedVariables false
set_option linter.unusedSimpArgs false

theorem node_Put_inner (ev kv dv : Value) (E : List ENT) (K : List KEY) (D : List Int) (h : rightN false E K D = true) : SpecR Try.prog 53 #[ndW false ev kv dv] (fun w => ndR w ev kv dv E K D) (fun r H' => ∃ u, r = .tuple #[u, .int .i64 0] ∧ H' = [own 5 1 u (putN false E K D).length (B8 (putN false E K D))]) := by
  have h' : E = [] ∧ innerB K D = true := by
    rw [rightN, if_neg (by simp)] at h
    simp only [Bool.and_eq_true, decide_eq_true_eq] at h
    exact ⟨List.eq_nil_of_length_eq_zero h.1, h.2⟩
  obtain ⟨rfl, hi⟩ := h'
  have := node_Put ev kv dv K D hi
  exact this
set_option maxHeartbeats 1000000 in
theorem node_PutN_no (leaf : Bool) (ev kv dv : Value) (E : List ENT) (K : List KEY) (D : List Int) (h : rightN leaf E K D = false) : SpecR Try.prog 53 #[ndW leaf ev kv dv] (fun w => ndR w ev kv dv E K D) (fun r H' => r = .tuple #[.slice none 0 0, .int .i64 1] ∧ H' = []) := by
  refine SpecR.of (fun w hrr => ?_)
  obtain ⟨hr0, hr1, hr2⟩ := hrr
  refine Calls.enter Try.func53 rfl rfl rfl (St.rebase w) ?_
  simp only [argSlots]
  (refine Tri.seq (Tri.region ?_); apply Tri.op; rfl)
  (first | (apply o_boxA; (case hx => rfl); (case hn => rfl); intro b1) | (apply o_box1; (case hx => rfl); (case h1 => rfl); (case hn => rfl); intro b1))
  (apply Tri.op; rfl; apply o_assign; rfl; rfl; apply Tri.op; rfl; apply o_assign; rfl; rfl; refine Tri.nil (Tri.thenN (Tri.seq (Tri.seq (Tri.region ?_)))); apply Tri.op; rfl)
  (apply o_loadAll (cs := ndLL leaf ev kv dv); (case hx => rfl); (case p => (with_reducible repeat constructor)); (case hl => rfl); (case hn => rfl))
  (apply Tri.op; rfl)
  (apply o_callV (hs := node_Right leaf ev kv dv E K D); (case hargs => (repeat first | exact evs.nil | (apply evs.cons; case a => rfl))); (case hpre => exact ndR_ex (by (with_reducible repeat constructor)) hr0 hr1 hr2); (case hn => rfl))
  (apply Tri.op; rfl; apply o_not; rfl; rfl; refine Tri.nil (Tri.thenN ?_))
  ((with_reducible apply Tri.setb 11 (true)); (case h => rfl); (case hi => (rw [h]; rfl)))
  (apply Tri.condT; rfl; rfl; refine Tri.seq (Tri.region ?_); apply Tri.op; rfl; apply o_assign; rfl; rfl; apply Tri.op; rfl; apply o_assign; rfl; rfl; refine Tri.nil (Tri.thenN (Tri.ret (Tri.thenR ?_))))
  (apply Tri.fin; (case hr => rfl); (case h => exact ResL.cons (Res1.tmp rfl) (ResL.cons (Res1.tmp rfl) (ResL.nil))); (apply fin_R (Hn := [])); (case p => exact (by (repeat first | with_reducible constructor | constructor))); exact ⟨by simp only [tupled]; done, rfl⟩)
set_option maxHeartbeats 4000000 in
theorem node_Put_leaf (ev kv dv : Value) (E : List ENT) (K : List KEY) (D : List Int) (h : rightN true E K D = true) (hR : ∀ e ∈ E, entR e) : SpecR Try.prog 53 #[ndW true ev kv dv] (fun w => ndR w ev kv dv E K D) (fun r H' => ∃ u, r = .tuple #[u, .int .i64 0] ∧ H' = [own 5 1 u (putN true E K D).length (B8 (putN true E K D))]) := by
  have h' : K = [] ∧ D = [] ∧ leafB E = true := by
    simp only [rightN, if_true, Bool.and_eq_true, decide_eq_true_eq] at h
    exact ⟨List.eq_nil_of_length_eq_zero h.1, List.eq_nil_of_length_eq_zero h.2.1, h.2.2⟩
  obtain ⟨rfl, rfl, hlf⟩ := h'
  obtain ⟨i1, i2, i3⟩ := leaf_spec hlf
  refine SpecR.of (fun w hrr => ?_)
  obtain ⟨hr0, hr1, hr2⟩ := hrr
  refine Calls.enter Try.func53 rfl rfl rfl (St.rebase w) ?_
  simp only [argSlots]
  (refine Tri.seq (Tri.region ?_); apply Tri.op; rfl)
  (first | (apply o_boxA; (case hx => rfl); (case hn => rfl); intro b1) | (apply o_box1; (case hx => rfl); (case h1 => rfl); (case hn => rfl); intro b1))
  (apply Tri.op; rfl; apply o_assign; rfl; rfl; apply Tri.op; rfl; apply o_assign; rfl; rfl; refine Tri.nil (Tri.thenN (Tri.seq (Tri.seq (Tri.region ?_)))); apply Tri.op; rfl)
  (apply o_loadAll (cs := ndLL true ev kv dv); (case hx => rfl); (case p => (with_reducible repeat constructor)); (case hl => rfl); (case hn => rfl))
  (apply Tri.op; rfl)
  (apply o_callV (hs := node_Right true ev kv dv E [] []); (case hargs => (repeat first | exact evs.nil | (apply evs.cons; case a => rfl))); (case hpre => exact ndR_ex (by (with_reducible repeat constructor)) hr0 hr1 hr2); (case hn => rfl))
  (apply Tri.op; rfl; apply o_not; rfl; rfl; refine Tri.nil (Tri.thenN ?_))
  ((with_reducible apply Tri.setb 11 (false)); (case h => rfl); (case hi => (rw [h]; rfl)))
  (apply Tri.condF; rfl; rfl; refine Tri.skip (Tri.thenN (Tri.seq (Tri.region ?_))); apply Tri.op; rfl)
  (apply o_loadAll (cs := ndLL true ev kv dv); (case hx => rfl); (case p => (with_reducible repeat constructor)); (case hl => rfl); (case hn => rfl))
  (apply Tri.op; rfl)
  (apply o_callV (hs := node_Size true ev kv dv E [] []); (case hargs => (repeat first | exact evs.nil | (apply evs.cons; case a => rfl))); (case hpre => exact ndR_ex (by (with_reducible repeat constructor)) hr0 hr1 hr2); (case hn => rfl))
  (apply Tri.op; rfl; apply o_conv8; rfl; rfl; apply Tri.op; rfl)
  ((with_reducible apply Tri.seti 14 (((UInt8.ofNat E.length).toNat : Int))); (case h => rfl); (case hi => (have : ((UInt8.ofNat E.length).toNat : Int) = (E.length : Int) % 256 := by { simp }; rw [this]; rfl)))
  (apply o_litSl (ys := [.int .u8 ((UInt8.ofNat E.length).toNat : Int)]); (case hp => (repeat first | exact pev.nil | (apply pev.cons; case a => rfl))); (case hm => rfl); (case hf => rfl); (case hn => rfl); intro v4)
  (apply Tri.op; rfl; apply o_assign; rfl; rfl; refine Tri.nil (Tri.thenN (Tri.seq (Tri.seq (Tri.region ?_)))); apply Tri.op; rfl; apply o_fieldAddr; rfl; rfl; apply Tri.op; rfl; apply o_load; rfl; (with_reducible repeat constructor); rfl; rfl; apply Tri.op; rfl)
  (apply o_lenRd (hr := hr0); (case hx => rfl); (case hn => rfl))
  (apply Tri.op; rfl; apply o_move; rfl; rfl; refine Tri.nil (Tri.thenN (Tri.block ?_)))
  ((with_reducible apply Tri.eqA (A := own 5 1 v4 _ _) (B := own 5 1 v4 (UInt8.ofNat E.length :: entsB E 0).length (B8 (UInt8.ofNat E.length :: entsB E 0)))); (case p => (with_reducible repeat constructor)); (case e => rfl))
  (apply Tri.loop (α := Σ' (i : Nat) (u : Value), i ≤ E.length) (m := fun x => E.length - x.1) (Lx := fun x => [(1, .pointer (some ⟨b1, 0, none⟩)), (4, x.2.1), (17, ev), (18, .int .i64 (E.length : Int)), (19, .int .i64 (x.1 : Int))]) (Hx := fun x => [own 5 1 x.2.1 (UInt8.ofNat E.length :: entsB E x.1).length (B8 (UInt8.ofNat E.length :: entsB E x.1)), blk b1 33 (ndLL true ev kv dv), Ex (hp w)]) (x0 := ⟨0, v4, Nat.zero_le _⟩); (case hL => ((try dsimp only); (repeat (first | exact trivial | refine And.intro (by rfl) ?_)))); (case hH => ((try dsimp only); apply St.all; (repeat first | with_reducible constructor | constructor)))); (rintro ⟨i, u, hi⟩ mx hmx; (try dsimp only at hmx ⊢))
  obtain ⟨c0, hc0⟩ : ∃ c0, c0 = UInt8.ofNat E.length :: entsB E i := ⟨_, rfl⟩
  have hl0 : c0.length = 1 + i * 30 := by rw [hc0, List.length_cons, entsB_length]; omega
  rw [← hc0]
  (refine Tri.seq (Tri.region ?_); apply Tri.op; rfl; apply o_lss; rfl; rfl; rfl; refine Tri.nil (Tri.thenN (Tri.seq ?_)))
  (apply Tri.condD; (case hc => rfl); (all_goals intro hc))
  · have hil : i < E.length := by omega
    obtain ⟨e, he⟩ : ∃ e, e = E.getD i ent0 := ⟨_, rfl⟩
    have h8 := EL_eight E i hil
    rw [← he] at h8
    have hat := entsTo_at i1 i hil
    rw [entAt, Bool.and_eq_true, ← he] at hat
    obtain ⟨k1, k2, k3, k4, k5, k6, k7⟩ := entOk_spec hat.1
    have hRe : entR e := by rw [he, List.getD_eq_getElem?_getD, List.getElem?_eq_getElem hil]; exact hR _ (List.getElem_mem hil)
    obtain ⟨_, _, hcr⟩ := hRe
    (refine Tri.skip (Tri.thenN (Tri.seq (Tri.block (Tri.seq (Tri.region ?_))))); apply Tri.op; rfl)
    (apply o_ixRd (hr := hr0) (j := i); (case hx => rfl); (case hy => rfl); (case hj => rfl); (case hlt => exact hil); (case hl => (rw [EL_length]; omega)); (case hn => rfl))
    (apply Tri.op; rfl)
    (apply o_loadAggRd (hr := hr0); (case hx => rfl); (case p => (with_reducible repeat constructor)); (case hv => exact h8); (case hl => rfl); (case hn => rfl))
    (apply Tri.op; rfl)
    (apply o_alloc; (case hn => rfl); intro b6)
    (apply Tri.op; rfl)
    (apply o_storeAll (ys := entL e); (case hx => rfl); (case hy => rfl); (case p => (with_reducible repeat constructor)); (case hl => rfl); (case hc => rfl); (case h1 => exact entL_one _))
    (refine Tri.nil (Tri.thenN (Tri.seq ?_)))
    ((first | with_reducible apply Tri.mix [blk b6 100 (entL e)] | (apply TriR.mix [blk b6 100 (entL e)]; (case hnd => rfl))); (case p => (repeat first | with_reducible constructor | constructor)); (dsimp only [List.length]))
    ((first | (apply TriM.q 0; rfl; rfl) | (apply TriM.qYes 0; rfl; rfl; rfl; with_reducible rfl)); kernel_rfl; rfl; rfl; (intro F K hK; apply o_move; rfl; rfl; exact hK); (first | (apply TriM.q 1; rfl; rfl) | (apply TriM.qYes 1; rfl; rfl; rfl; with_reducible rfl)); kernel_rfl; rfl; rfl; (intro F K hK; apply o_fieldAddr; rfl; rfl; exact hK))
    ((first | (apply TriM.q 2; (case ho => rfl); (case hg => rfl)) | (apply TriM.qYes 2; (case ho => rfl); (case hg => rfl); (case hyl => rfl); (case hb => with_reducible rfl))); (case hB => kernel_rfl); (case hd => rfl); (case hn => rfl); (case h => (intro F K hK; (try dsimp only [List.cons_append, List.nil_append]); (apply o_loadAgg (ys := keyL e.key); (case hx => rfl); (case p => (with_reducible repeat constructor)); (case hv => rfl); (case hl => rfl); (case hn => rfl)); exact hK)))
    ((first | (apply TriM.q 4; rfl; rfl) | (apply TriM.qYes 4; rfl; rfl; rfl; with_reducible rfl)); kernel_rfl; rfl; rfl; (intro F K hK; apply o_fieldAddr; rfl; rfl; exact hK); (first | (apply TriM.q 5; rfl; rfl) | (apply TriM.qYes 5; rfl; rfl; rfl; with_reducible rfl)); kernel_rfl; rfl; rfl; (intro F K hK; (try dsimp only [List.cons_append, List.nil_append]); apply o_load; rfl; (with_reducible repeat constructor); rfl; rfl; exact hK); (first | (apply TriM.q 6; rfl; rfl) | (apply TriM.qYes 6; rfl; rfl; rfl; with_reducible rfl)); kernel_rfl; rfl; rfl; (intro F K hK; apply o_conv64; rfl; rfl; exact hK))
    ((with_reducible apply TriM.setv 29 ((.int .u64 (n64 e.fin : Int)))); (case h => rfl); (case hv => (congr 1; unfold n64; omega)))
    (apply TriM.a 3; (case ho => rfl); (case hg => rfl); (case hr => kernel_rfl); (try dsimp only [List.cons_append, List.nil_append]))
    (apply o_callS (hs := node_putKey u c0 e.key k1 (by omega)); (case hargs => (repeat first | exact evs.nil | (apply evs.cons; case a => rfl))); (case p => (repeat first | with_reducible constructor | constructor)); (case hn => rfl))
    rintro v1 H1 rfl
    obtain ⟨c1, hc1⟩ : ∃ c, c = c0 ++ keyB e.key := ⟨_, rfl⟩
    have hl1 : c1.length = 13 + i * 30 := by rw [hc1, List.length_append, hl0, keyB_length]; omega
    rw [← hc1]
    (try dsimp only [List.cons_append, List.nil_append])
    (apply TriM.back; (case p => (repeat first | with_reducible constructor | constructor)))
    (apply TriM.a 7; (case ho => rfl); (case hg => rfl); (case hr => kernel_rfl); (try dsimp only [List.cons_append, List.nil_append]))
    (apply o_callS (hs := node_big v1 c1 (n64 e.fin) 8 (by omega) (by omega)); (case hargs => (repeat first | exact evs.nil | (apply evs.cons; case a => rfl))); (case p => (repeat first | with_reducible constructor | constructor)); (case hn => rfl))
    rintro v2 H2 rfl
    obtain ⟨c2, hc2⟩ : ∃ c, c = c1 ++ bigB (n64 e.fin) 8 := ⟨_, rfl⟩
    have hl2 : c2.length = 21 + i * 30 := by rw [hc2, List.length_append, hl1, bigB_length]; omega
    rw [← hc2]
    (try dsimp only [List.cons_append, List.nil_append])
    (apply TriM.back; (case p => (repeat first | with_reducible constructor | constructor)))
    ((first | (apply TriM.q 8; rfl; rfl) | (apply TriM.qYes 8; rfl; rfl; rfl; with_reducible rfl)); kernel_rfl; rfl; rfl; (intro F K hK; apply o_assign; rfl; rfl; exact hK))
    (apply TriM.nil; (case hr => kernel_rfl); (try dsimp only [List.cons_append, List.nil_append]))
    (refine Tri.thenN (Tri.seq ?_))
    ((first | with_reducible apply Tri.mix [blk b6 100 (entL e)] | (apply TriR.mix [blk b6 100 (entL e)]; (case hnd => rfl))); (case p => (repeat first | with_reducible constructor | constructor)); (dsimp only [List.length]))
    ((first | (apply TriM.q 0; rfl; rfl) | (apply TriM.qYes 0; rfl; rfl; rfl; with_reducible rfl)); kernel_rfl; rfl; rfl; (intro F K hK; apply o_move; rfl; rfl; exact hK); (first | (apply TriM.q 1; rfl; rfl) | (apply TriM.qYes 1; rfl; rfl; rfl; with_reducible rfl)); kernel_rfl; rfl; rfl; (intro F K hK; apply o_fieldAddr; rfl; rfl; exact hK); (first | (apply TriM.q 2; rfl; rfl) | (apply TriM.qYes 2; rfl; rfl; rfl; with_reducible rfl)); kernel_rfl; rfl; rfl; (intro F K hK; (try dsimp only [List.cons_append, List.nil_append]); apply o_load; rfl; (with_reducible repeat constructor); rfl; rfl; exact hK); (first | (apply TriM.q 3; rfl; rfl) | (apply TriM.qYes 3; rfl; rfl; rfl; with_reducible rfl)); kernel_rfl; rfl; rfl; (intro F K hK; apply o_convI; rfl; rfl; (first | decide | (exact wrap_i64 (by omega)) | (exact wrap_u8 (by omega)) | (exact wrap_u16 (by omega)) | (exact wrap_u32 (by omega)) | (exact wrap_u64 (by omega))); exact hK))
    ((with_reducible apply TriM.setv 34 ((.int .u64 (e.addr.toNat : Int)))); (case h => rfl); (case hv => (congr 1; omega)))
    ((first | (apply TriM.q 5; rfl; rfl) | (apply TriM.qYes 5; rfl; rfl; rfl; with_reducible rfl)); kernel_rfl; rfl; rfl; (intro F K hK; apply o_fieldAddr; rfl; rfl; exact hK); (first | (apply TriM.q 6; rfl; rfl) | (apply TriM.qYes 6; rfl; rfl; rfl; with_reducible rfl)); kernel_rfl; rfl; rfl; (intro F K hK; (try dsimp only [List.cons_append, List.nil_append]); apply o_load; rfl; (with_reducible repeat constructor); rfl; rfl; exact hK); (first | (apply TriM.q 7; rfl; rfl) | (apply TriM.qYes 7; rfl; rfl; rfl; with_reducible rfl)); kernel_rfl; rfl; rfl; (intro F K hK; apply o_convI; rfl; rfl; (first | decide | (exact wrap_i64 (by omega)) | (exact wrap_u8 (by omega)) | (exact wrap_u16 (by omega)) | (exact wrap_u32 (by omega)) | (exact wrap_u64 (by omega))); exact hK))
    ((with_reducible apply TriM.setv 38 ((.int .u64 (e.len.toNat : Int)))); (case h => rfl); (case hv => (congr 1; omega)))
    (apply TriM.a 4; (case ho => rfl); (case hg => rfl); (case hr => kernel_rfl); (try dsimp only [List.cons_append, List.nil_append]))
    (apply o_callS (hs := node_big v2 c2 e.addr.toNat 2 (by omega) (by omega)); (case hargs => (repeat first | exact evs.nil | (apply evs.cons; case a => rfl))); (case p => (repeat first | with_reducible constructor | constructor)); (case hn => rfl))
    rintro v3 H3 rfl
    obtain ⟨c3, hc3⟩ : ∃ c, c = c2 ++ bigB e.addr.toNat 2 := ⟨_, rfl⟩
    have hl3 : c3.length = 23 + i * 30 := by rw [hc3, List.length_append, hl2, bigB_length]; omega
    rw [← hc3]
    (try dsimp only [List.cons_append, List.nil_append])
    (apply TriM.back; (case p => (repeat first | with_reducible constructor | constructor)))
    (apply TriM.a 8; (case ho => rfl); (case hg => rfl); (case hr => kernel_rfl); (try dsimp only [List.cons_append, List.nil_append]))
    (apply o_callS (hs := node_big v3 c3 e.len.toNat 2 (by omega) (by omega)); (case hargs => (repeat first | exact evs.nil | (apply evs.cons; case a => rfl))); (case p => (repeat first | with_reducible constructor | constructor)); (case hn => rfl))
    rintro v4 H4 rfl
    obtain ⟨c4, hc4⟩ : ∃ c, c = c3 ++ bigB e.len.toNat 2 := ⟨_, rfl⟩
    have hl4 : c4.length = 25 + i * 30 := by rw [hc4, List.length_append, hl3, bigB_length]; omega
    rw [← hc4]
    (try dsimp only [List.cons_append, List.nil_append])
    (apply TriM.back; (case p => (repeat first | with_reducible constructor | constructor)))
    ((first | (apply TriM.q 9; rfl; rfl) | (apply TriM.qYes 9; rfl; rfl; rfl; with_reducible rfl)); kernel_rfl; rfl; rfl; (intro F K hK; apply o_assign; rfl; rfl; exact hK))
    (apply TriM.nil; (case hr => kernel_rfl); (try dsimp only [List.cons_append, List.nil_append]))
    (refine Tri.thenN ?_)
    ((first | with_reducible apply Tri.mix [blk b6 100 (entL e)] | (apply TriR.mix [blk b6 100 (entL e)]; (case hnd => rfl))); (case p => (repeat first | with_reducible constructor | constructor)); (dsimp only [List.length]))
    ((first | (apply TriM.q 0; rfl; rfl) | (apply TriM.qYes 0; rfl; rfl; rfl; with_reducible rfl)); kernel_rfl; rfl; rfl; (intro F K hK; apply o_move; rfl; rfl; exact hK); (first | (apply TriM.q 1; rfl; rfl) | (apply TriM.qYes 1; rfl; rfl; rfl; with_reducible rfl)); kernel_rfl; rfl; rfl; (intro F K hK; apply o_fieldAddr; rfl; rfl; exact hK); (first | (apply TriM.q 2; rfl; rfl) | (apply TriM.qYes 2; rfl; rfl; rfl; with_reducible rfl)); kernel_rfl; rfl; rfl; (intro F K hK; (try dsimp only [List.cons_append, List.nil_append]); apply o_load; rfl; (with_reducible repeat constructor); rfl; rfl; exact hK); (first | (apply TriM.q 3; rfl; rfl) | (apply TriM.qYes 3; rfl; rfl; rfl; with_reducible rfl)); kernel_rfl; rfl; rfl; (intro F K hK; apply o_convI; rfl; rfl; (first | decide | (exact wrap_i64 (by omega)) | (exact wrap_u8 (by omega)) | (exact wrap_u16 (by omega)) | (exact wrap_u32 (by omega)) | (exact wrap_u64 (by omega))); exact hK))
    ((with_reducible apply TriM.setv 43 ((.int .u8 ((UInt8.ofNat e.count.toNat).toNat : Int)))); (case h => rfl); (case hv => (congr 1; rw [byte_of (by omega) (by omega)]; try omega)))
    ((first | (apply TriM.q 4; rfl; rfl) | (apply TriM.qYes 4; rfl; rfl; rfl; with_reducible rfl)); kernel_rfl; rfl; rfl; (intro F K hK; apply o_fieldAddr; rfl; rfl; exact hK); (first | (apply TriM.q 5; rfl; rfl) | (apply TriM.qYes 5; rfl; rfl; rfl; with_reducible rfl)); kernel_rfl; rfl; rfl; (intro F K hK; (try dsimp only [List.cons_append, List.nil_append]); apply o_load; rfl; (with_reducible repeat constructor); rfl; rfl; exact hK); (first | (apply TriM.q 6; rfl; rfl) | (apply TriM.qYes 6; rfl; rfl; rfl; with_reducible rfl)); kernel_rfl; rfl; rfl; (intro F K hK; apply o_convI; rfl; rfl; (first | decide | (exact wrap_i64 (by omega)) | (exact wrap_u8 (by omega)) | (exact wrap_u16 (by omega)) | (exact wrap_u32 (by omega)) | (exact wrap_u64 (by omega))); exact hK))
    ((with_reducible apply TriM.setv 46 ((.int .u8 ((UInt8.ofNat e.codec.toNat).toNat : Int)))); (case h => rfl); (case hv => (congr 1; rw [byte_of (by omega) (by omega)]; try omega)))
    ((first | (apply TriM.q 9; rfl; rfl) | (apply TriM.qYes 9; rfl; rfl; rfl; with_reducible rfl)); kernel_rfl; rfl; rfl; (intro F K hK; apply o_fieldAddr; rfl; rfl; exact hK); (first | (apply TriM.q 10; rfl; rfl) | (apply TriM.qYes 10; rfl; rfl; rfl; with_reducible rfl)); kernel_rfl; rfl; rfl; (intro F K hK; (try dsimp only [List.cons_append, List.nil_append]); apply o_load; rfl; (with_reducible repeat constructor); rfl; rfl; exact hK); (first | (apply TriM.q 11; rfl; rfl) | (apply TriM.qYes 11; rfl; rfl; rfl; with_reducible rfl)); kernel_rfl; rfl; rfl; (intro F K hK; apply o_convI; rfl; rfl; (first | decide | (exact wrap_i64 (by omega)) | (exact wrap_u8 (by omega)) | (exact wrap_u16 (by omega)) | (exact wrap_u32 (by omega)) | (exact wrap_u64 (by omega))); exact hK))
    ((with_reducible apply TriM.setv 51 ((.int .u64 (e.crc : Int)))); (case h => rfl); (case hv => (congr 1; try omega)))
    (apply TriM.a 7; (case ho => rfl); (case hg => rfl); (case hr => kernel_rfl); (try dsimp only [List.cons_append, List.nil_append]))
    (apply o_litSl (ys := [.int .u8 ((UInt8.ofNat e.count.toNat).toNat : Int), .int .u8 ((UInt8.ofNat e.codec.toNat).toNat : Int)]); (case hp => (repeat first | exact pev.nil | (apply pev.cons; case a => rfl))); (case hm => rfl); (case hf => rfl); (case hn => rfl); intro vl)
    (apply TriM.back; (case p => (repeat first | with_reducible constructor | constructor)))
    (apply TriM.a 8; (case ho => rfl); (case hg => rfl); (case hr => kernel_rfl); (try dsimp only [List.cons_append, List.nil_append]))
    (apply o_append; (case hx => rfl); (case hy => rfl); (case p => (with_reducible repeat constructor)); (case hr => exact rdw_own (v := vl) (by (with_reducible repeat constructor))); (case hl => rfl); (case h1 => (intro y hy; simp at hy; rcases hy with rfl | rfl <;> rfl)); (case hb => omega); (case hn => rfl))
    intro v5
    obtain ⟨c5, hc5⟩ : ∃ c, c = c4 ++ [UInt8.ofNat e.count.toNat, UInt8.ofNat e.codec.toNat] := ⟨_, rfl⟩
    have hl5 : c5.length = 27 + i * 30 := by rw [hc5, List.length_append, hl4]; simp; omega
    ((with_reducible apply Tri.eqA (A := own 5 1 v5 _ _) (B := own 5 1 v5 c5.length (B8 c5))); (case p => (with_reducible repeat constructor)); (case e => (rw [hc5, B8_append, List.length_append]; rfl)))
    (apply TriM.back; (case p => (repeat first | with_reducible constructor | constructor)))
    (apply TriM.a 12; (case ho => rfl); (case hg => rfl); (case hr => kernel_rfl); (try dsimp only [List.cons_append, List.nil_append]))
    (apply o_callS (hs := node_big v5 c5 e.crc 4 (by omega) (by omega)); (case hargs => (repeat first | exact evs.nil | (apply evs.cons; case a => rfl))); (case p => (repeat first | with_reducible constructor | constructor)); (case hn => rfl))
    rintro v6 H6 rfl
    have e6 : c5 ++ bigB e.crc 4 = UInt8.ofNat E.length :: entsB E (i + 1) := by
      rw [hc5, hc4, hc3, hc2, hc1, hc0, entsB, ← he, entB]; simp [List.append_assoc]
    rw [e6]
    (try dsimp only [List.cons_append, List.nil_append])
    (apply TriM.back; (case p => (repeat first | with_reducible constructor | constructor)))
    ((first | (apply TriM.q 13; rfl; rfl) | (apply TriM.qYes 13; rfl; rfl; rfl; with_reducible rfl)); kernel_rfl; rfl; rfl; (intro F K hK; apply o_assign; rfl; rfl; exact hK))
    (apply TriM.nil; (case hr => kernel_rfl); (try dsimp only [List.cons_append, List.nil_append]))
    (refine Tri.blockN (Tri.thenN (Tri.region ?_)); apply Tri.op; rfl; apply o_add64; rfl; rfl; rfl; (omega); apply Tri.op; rfl; apply o_move; rfl; rfl; refine Tri.nil (Tri.thenN ?_))
    (apply Tri.again (y := ⟨i + 1, v6, by omega⟩); (case p => ((try dsimp only); (repeat (first | exact Pulls.nil | (apply Pulls.cons; (case a => (first | ((repeat (first | with_reducible exact Gv.Pull.head | with_reducible apply Gv.Pull.tail)); done) | (repeat (first | exact Gv.Pull.head | apply Gv.Pull.tail))))))))); (case hm => ((try dsimp only); omega)); (try dsimp only))
    (repeat (first | exact trivial | refine And.intro (by rfl) ?_))
  · obtain rfl : i = E.length := by omega
    ((with_reducible refine Tri.exit (Tri.thenE (Tri.thenE (Tri.blockE (Tri.thenN (Tri.seq (Tri.seq (Tri.region ?_)))))))); apply Tri.op; rfl; apply o_fieldAddr; rfl; rfl; apply Tri.op; rfl; apply o_load; rfl; (with_reducible repeat constructor); rfl; rfl; apply Tri.op; rfl)
    (apply o_lenRd (hr := hr2); (case hx => rfl); (case hn => rfl))
    (apply Tri.op; rfl; apply o_move; rfl; rfl; refine Tri.nil (Tri.thenN (Tri.block ?_)))
    (apply Tri.loop (α := Unit) (m := fun _ => 0) (Lx := fun _ => [(1, .pointer (some ⟨b1, 0, none⟩)), (4, u), (55, dv), (56, .int .i64 0), (57, .int .i64 0)]) (Hx := fun _ => [own 5 1 u c0.length (B8 c0), blk b1 33 (ndLL true ev kv dv), Ex (hp w)]) (x0 := ()); (case hL => ((try dsimp only); (repeat (first | exact trivial | refine And.intro (by rfl) ?_)))); (case hH => ((try dsimp only); apply St.all; (repeat first | with_reducible constructor | constructor)))); (rintro ⟨⟩ mx hmx; (try dsimp only at hmx ⊢))
    (refine Tri.seq (Tri.region ?_); apply Tri.op; rfl; apply o_lss; rfl; rfl; rfl; refine Tri.nil (Tri.thenN (Tri.seq ?_)))
    (apply Tri.condD; (case hc => rfl); (all_goals intro hz))
    · omega
    ((with_reducible refine Tri.exit (Tri.thenE (Tri.thenE (Tri.blockE (Tri.thenN (Tri.seq (Tri.region ?_))))))); apply Tri.op; rfl; apply o_move; rfl; rfl; apply Tri.op; rfl; apply o_assign; rfl; rfl; apply Tri.op; rfl; apply o_assign; rfl; rfl; refine Tri.nil (Tri.thenN (Tri.ret ?_)))
    ((with_reducible apply Tri.eqA (A := own 5 1 u _ _) (B := own 5 1 u (putN true E [] []).length (B8 (putN true E [] [])))); (case p => (with_reducible repeat constructor)); (case e => (rw [hc0]; rfl)))
    (apply Tri.fin; (case hr => rfl); (case h => exact ResL.cons (Res1.tmp rfl) (ResL.cons (Res1.tmp rfl) (ResL.nil))); (apply fin_R (Hn := [own 5 1 u (putN true E [] []).length (B8 (putN true E [] []))])); (case p => exact (by (repeat first | with_reducible constructor | constructor))); exact ⟨u, rfl, rfl⟩)
theorem node_PutN (leaf : Bool) (ev kv dv : Value) (E : List ENT) (K : List KEY) (D : List Int) (h : rightN leaf E K D = true) (hR : ∀ e ∈ E, entR e) : SpecR Try.prog 53 #[ndW leaf ev kv dv] (fun w => ndR w ev kv dv E K D) (fun r H' => ∃ u, r = .tuple #[u, .int .i64 0] ∧ H' = [own 5 1 u (putN leaf E K D).length (B8 (putN leaf E K D))]) := by
  cases leaf
  · exact node_Put_inner ev kv dv E K D h
  · exact node_Put_leaf ev kv dv E K D h hR

set_option maxHeartbeats 4000000 in
theorem node_entry (r : Nat) (u : Value) (l : List UInt8) (h1 : PH) (hr : Rd h1 u l.length (B8 l)) (hs : 30 ≤ l.length) : Gv.Spec Try.prog 87 #[.pointer (some ⟨r, 0, none⟩)] [blk r 179 [u], Ex h1]
    (fun x H' => x = entV (entP l) ∧ ∃ A c, Rd h1 (.slice A (l.drop 30).length c) (l.drop 30).length (B8 (l.drop 30)) ∧ H' = [blk r 179 [.slice A (l.drop 30).length c], Ex h1]) := by
  refine Gv.Spec.of (fun w h0 hw => ?_)
  refine Calls.enter Try.func87 rfl rfl rfl hw ?_
  simp only [argSlots]
  (try dsimp only [List.cons_append, List.nil_append])
  have hb : ∀ a m, a + m ≤ 30 → numB ((l.drop a).take m) < 256 ^ m := fun a m h => by
    have := numB_lt ((l.drop a).take m)
    rwa [show ((l.drop a).take m).length = m by rw [List.length_take, List.length_drop]; omega] at this
  have q1 := hb 12 8 (by omega)
  have q2 := hb 20 2 (by omega)
  have q3 := hb 22 2 (by omega)
  have q4 := hb 24 1 (by omega)
  have q5 := hb 25 1 (by omega)
  have q6 := hb 26 4 (by omega)
  (refine Tri.seq (Tri.region ?_); apply Tri.op; rfl)
  (apply o_alloc; (case hn => rfl); intro b2)
  (refine Tri.nil (Tri.thenN (Tri.seq (Tri.region ?_))); apply Tri.op; rfl; apply o_move; rfl; rfl; apply Tri.op; rfl)
  (apply o_callS (hs := node_key r u l h1 hr (by omega)); (case hargs => (repeat first | exact evs.nil | (apply evs.cons; case a => rfl))); (case p => (repeat first | with_reducible constructor | constructor)); (case hn => rfl))
  rintro x1 H1 ⟨rfl, A1, c1, hr1, rfl⟩
  (try dsimp only [List.cons_append, List.nil_append])
  (apply Tri.op; rfl; apply o_move; rfl; rfl; apply Tri.op; rfl)
  ((with_reducible apply o_callS (hs := node_take r (.slice A1 (l.drop 12).length c1) (l.drop 12) 8 h1 hr1 (by rw [List.length_drop]; omega) (by omega))); (case hargs => (repeat first | exact evs.nil | (apply evs.cons; case a => rfl))); (case p => (repeat first | with_reducible constructor | constructor)); (case hn => rfl))
  rintro x2 H2 ⟨rfl, A2, c2, hr2, rfl⟩
  simp only [List.drop_drop, Nat.reduceAdd] at hr2 ⊢
  (try dsimp only [List.cons_append, List.nil_append])
  (apply Tri.op; rfl; apply o_conv; rfl; rfl; apply Tri.op; rfl)
  ((with_reducible apply Tri.seti 8 ((s64 (numB ((l.drop 12).take 8))))); (case h => rfl); (case hi => exact s64_wrap _ (by omega)))
  (apply o_build (ys := [.int .i64 (entP l).key.1, .int .i64 (entP l).key.2, .int .i64 (entP l).fin, .int .i64 0, .int .i64 0, .int .i64 0, .int .i64 0, .int .u32 0]); (case hp => (repeat first | exact pev.nil | (apply pev.cons; case a => rfl))); (case hf => rfl); (case hn => rfl))
  (apply Tri.op; rfl)
  (apply o_alloc; (case hn => rfl); intro b3)
  (apply Tri.op; rfl)
  (apply o_storeAll (ys := [.int .i64 (entP l).key.1, .int .i64 (entP l).key.2, .int .i64 (entP l).fin, .int .i64 0, .int .i64 0, .int .i64 0, .int .i64 0, .int .u32 0]); (case hx => rfl); (case hy => rfl); (case p => (with_reducible repeat constructor)); (case hl => rfl); (case hc => rfl); (case h1 => (intro y hy; simp at hy; rcases hy with rfl | rfl | rfl | rfl | rfl <;> rfl)))
  (refine Tri.nil (Tri.thenN (Tri.seq (Tri.region ?_))); apply Tri.op; rfl; apply o_move; rfl; rfl; apply Tri.op; rfl)
  ((with_reducible apply o_callS (hs := node_take r (.slice A2 (l.drop 20).length c2) (l.drop 20) 2 h1 hr2 (by rw [List.length_drop]; omega) (by omega))); (case hargs => (repeat first | exact evs.nil | (apply evs.cons; case a => rfl))); (case p => (repeat first | with_reducible constructor | constructor)); (case hn => rfl))
  rintro x3 H3 ⟨rfl, A3, c3, hr3, rfl⟩
  simp only [List.drop_drop, Nat.reduceAdd] at hr3 ⊢
  (try dsimp only [List.cons_append, List.nil_append])
  (apply Tri.op; rfl; apply o_convI; rfl; rfl; (first | decide | (exact wrap_i64 (by omega)) | (exact wrap_u8 (by omega)) | (exact wrap_u16 (by omega)) | (exact wrap_u32 (by omega)) | (exact wrap_u64 (by omega))); apply Tri.op; rfl; apply o_move; rfl; rfl; apply Tri.op; rfl)
  ((with_reducible apply o_callS (hs := node_take r (.slice A3 (l.drop 22).length c3) (l.drop 22) 2 h1 hr3 (by rw [List.length_drop]; omega) (by omega))); (case hargs => (repeat first | exact evs.nil | (apply evs.cons; case a => rfl))); (case p => (repeat first | with_reducible constructor | constructor)); (case hn => rfl))
  rintro x4 H4 ⟨rfl, A4, c4, hr4, rfl⟩
  simp only [List.drop_drop, Nat.reduceAdd] at hr4 ⊢
  (try dsimp only [List.cons_append, List.nil_append])
  (apply Tri.op; rfl; apply o_convI; rfl; rfl; (first | decide | (exact wrap_i64 (by omega)) | (exact wrap_u8 (by omega)) | (exact wrap_u16 (by omega)) | (exact wrap_u32 (by omega)) | (exact wrap_u64 (by omega))); apply Tri.op; rfl; apply o_fieldAddr; rfl; rfl; apply Tri.op; rfl)
  (apply o_store; (case hx => rfl); (case hy => rfl); (case h1 => rfl); (case p => (with_reducible repeat constructor)); (case hi => (show 3 < 8; omega)))
  (apply Tri.op; rfl; apply o_fieldAddr; rfl; rfl; apply Tri.op; rfl)
  (apply o_store; (case hx => rfl); (case hy => rfl); (case h1 => rfl); (case p => (with_reducible repeat constructor)); (case hi => (show 4 < 8; omega)))
  (refine Tri.nil (Tri.thenN (Tri.seq (Tri.region ?_))); apply Tri.op; rfl; apply o_move; rfl; rfl; apply Tri.op; rfl)
  ((with_reducible apply o_callS (hs := node_take r (.slice A4 (l.drop 24).length c4) (l.drop 24) 1 h1 hr4 (by rw [List.length_drop]; omega) (by omega))); (case hargs => (repeat first | exact evs.nil | (apply evs.cons; case a => rfl))); (case p => (repeat first | with_reducible constructor | constructor)); (case hn => rfl))
  rintro x5 H5 ⟨rfl, A5, c5, hr5, rfl⟩
  simp only [List.drop_drop, Nat.reduceAdd] at hr5 ⊢
  (try dsimp only [List.cons_append, List.nil_append])
  (apply Tri.op; rfl; apply o_convI; rfl; rfl; (first | decide | (exact wrap_i64 (by omega)) | (exact wrap_u8 (by omega)) | (exact wrap_u16 (by omega)) | (exact wrap_u32 (by omega)) | (exact wrap_u64 (by omega))); apply Tri.op; rfl; apply o_move; rfl; rfl; apply Tri.op; rfl)
  ((with_reducible apply o_callS (hs := node_take r (.slice A5 (l.drop 25).length c5) (l.drop 25) 1 h1 hr5 (by rw [List.length_drop]; omega) (by omega))); (case hargs => (repeat first | exact evs.nil | (apply evs.cons; case a => rfl))); (case p => (repeat first | with_reducible constructor | constructor)); (case hn => rfl))
  rintro x6 H6 ⟨rfl, A6, c6, hr6, rfl⟩
  simp only [List.drop_drop, Nat.reduceAdd] at hr6 ⊢
  (try dsimp only [List.cons_append, List.nil_append])
  (apply Tri.op; rfl; apply o_convI; rfl; rfl; (first | decide | (exact wrap_i64 (by omega)) | (exact wrap_u8 (by omega)) | (exact wrap_u16 (by omega)) | (exact wrap_u32 (by omega)) | (exact wrap_u64 (by omega))); apply Tri.op; rfl; apply o_fieldAddr; rfl; rfl; apply Tri.op; rfl)
  (apply o_store; (case hx => rfl); (case hy => rfl); (case h1 => rfl); (case p => (with_reducible repeat constructor)); (case hi => (show 5 < 8; omega)))
  (apply Tri.op; rfl; apply o_fieldAddr; rfl; rfl; apply Tri.op; rfl)
  (apply o_store; (case hx => rfl); (case hy => rfl); (case h1 => rfl); (case p => (with_reducible repeat constructor)); (case hi => (show 6 < 8; omega)))
  (refine Tri.nil (Tri.thenN (Tri.seq (Tri.region ?_))); apply Tri.op; rfl; apply o_move; rfl; rfl; apply Tri.op; rfl)
  ((with_reducible apply o_callS (hs := node_take r (.slice A6 (l.drop 26).length c6) (l.drop 26) 4 h1 hr6 (by rw [List.length_drop]; omega) (by omega))); (case hargs => (repeat first | exact evs.nil | (apply evs.cons; case a => rfl))); (case p => (repeat first | with_reducible constructor | constructor)); (case hn => rfl))
  rintro x7 H7 ⟨rfl, A7, c7, hr7, rfl⟩
  simp only [List.drop_drop, Nat.reduceAdd] at hr7 ⊢
  (try dsimp only [List.cons_append, List.nil_append])
  (apply Tri.op; rfl; apply o_convI; rfl; rfl; (first | decide | (exact wrap_i64 (by omega)) | (exact wrap_u8 (by omega)) | (exact wrap_u16 (by omega)) | (exact wrap_u32 (by omega)) | (exact wrap_u64 (by omega))); apply Tri.op; rfl; apply o_fieldAddr; rfl; rfl; apply Tri.op; rfl)
  (apply o_store; (case hx => rfl); (case hy => rfl); (case h1 => rfl); (case p => (with_reducible repeat constructor)); (case hi => (show 7 < 8; omega)))
  (refine Tri.nil (Tri.thenN (Tri.seq (Tri.region ?_))); apply Tri.op; rfl)
  ((with_reducible apply Tri.eqA (A := blk b3 _ _) (B := blk b3 100 (entL (entP l)))); (case p => (with_reducible repeat constructor)); (case e => rfl))
  (apply o_loadAll (cs := entL (entP l)); (case hx => rfl); (case p => (with_reducible repeat constructor)); (case hl => rfl); (case hn => rfl))
  (apply Tri.op; rfl)
  (apply o_storeAll (ys := entL (entP l)); (case hx => rfl); (case hy => rfl); (case p => (with_reducible repeat constructor)); (case hl => rfl); (case hc => rfl); (case h1 => exact entL_one _))
  (refine Tri.nil (Tri.thenN (Tri.ret ?_)))
  (apply Tri.fin; (case hr => rfl); (case h => exact ResL.cons ((Res1.agg rfl (by (with_reducible repeat constructor)) (by rw [List.drop_zero]; exact List.take_of_length_le (Nat.le_of_eq (entL_len (entP l)))) (entL_len (entP l)))) (ResL.nil)); (apply fin_R (Hn := [blk r 179 [.slice A7 (l.drop 30).length c7], Ex h1])); (case p => exact (by (repeat first | with_reducible constructor | constructor))); exact ⟨rfl, A7, c7, hr7, rfl⟩)
end Go.Proofs.Ytckdlfbbkemklaa
end
