import Derived.Test.YtckdlfbbkemklaaZNdWalk2
/- node: Get, of inner nodes; has a node its bytes? -/
namespace Go.Proofs.Ytckdlfbbkemklaa
open Go Go.RowKit Go.Gv
set_option linter.unusedVariables false
set_option linter.unusedSimpArgs false

theorem sub_rd' {h : PH} {v : Value} {l : List UInt8} (hr : Rd h v l.length (B8 l)) (lo hi : Nat) (h1 : lo ≤ hi) (h2 : hi ≤ l.length) : Rd h (subv v 1 lo hi) ((l.drop lo).take (hi - lo)).length (B8 ((l.drop lo).take (hi - lo))) := by
  have := hr.subv (size := 1) h1 h2
  rw [B8_sub] at this
  rw [show ((l.drop lo).take (hi - lo)).length = hi - lo by rw [List.length_take, List.length_drop]; omega]
  exact this
theorem drop_rd {h : PH} {v : Value} {l : List UInt8} (hr : Rd h v l.length (B8 l)) (k : Nat) (hk : k ≤ l.length) : Rd h (subv v 1 k l.length) (l.drop k).length (B8 (l.drop k)) := by
  have := sub_rd' hr k l.length hk (Nat.le_refl _)
  rwa [List.take_of_length_le (by rw [List.length_drop]; omega)] at this
theorem get_or' (l : List UInt8) (i : Nat) (h : i < l.length) : (B8 l)[i]? = some (.int .u8 ((l.getD i 0).toNat : Int)) := by
  rw [B8_get l i h, List.getD_eq_getElem?_getD, List.getElem?_eq_getElem h]; rfl
theorem s64_wrap (n : Nat) (h : n < 18446744073709551616) : IntKind.i64.wrap (n : Int) = s64 n := by
  rw [IntKind.wrap_i64]; unfold s64; split <;> omega
set_option maxHeartbeats 1000000 in
theorem node_take (r : Nat) (u : Value) (l : List UInt8) (size : Nat) (h1 : PH) (hr : Rd h1 u l.length (B8 l)) (hs : size ≤ l.length) (h8 : size ≤ 8) : Gv.Spec Try.prog 89 #[.pointer (some ⟨r, 0, none⟩), .int .i64 (size : Int)] [blk r 179 [u], Ex h1]
    (fun x H' => x = .int .u64 (numB (l.take size) : Int) ∧ ∃ A c, Rd h1 (.slice A (l.drop size).length c) (l.drop size).length (B8 (l.drop size)) ∧ H' = [blk r 179 [.slice A (l.drop size).length c], Ex h1]) := by
  refine Gv.Spec.of (fun w h0 hw => ?_)
  refine Calls.enter Try.func89 rfl rfl rfl hw ?_
  simp only [argSlots]
  (try dsimp only [List.cons_append, List.nil_append])
  have hm : Rd h1 (subv u 1 0 size) (l.take size).length (B8 (l.take size)) := by
    have := sub_rd' hr 0 size (by omega) hs
    rwa [List.drop_zero, Nat.sub_zero] at this
  have hml : (l.take size).length = size := by rw [List.length_take]; omega
  have hd := drop_rd hr size hs
  ((with_reducible refine Tri.seq (Tri.region ?_)); (with_reducible apply Tri.op); rfl; (with_reducible apply o_assign); rfl; rfl; (with_reducible refine Tri.nil (Tri.thenN (Tri.seq (Tri.region ?_)))); (with_reducible apply Tri.op); rfl; (with_reducible apply o_assign); rfl; rfl; (with_reducible refine Tri.nil (Tri.thenN (Tri.seq (Tri.seq (Tri.region ?_))))); (with_reducible apply Tri.op); rfl; (with_reducible apply o_move); rfl; rfl; (with_reducible apply Tri.op); rfl; (with_reducible apply o_nilCheck); rfl; rfl; (with_reducible apply Tri.op); rfl; (with_reducible apply o_fieldAddr); rfl; rfl; (with_reducible apply Tri.op); rfl; (with_reducible apply o_load); rfl; (focus (first | ((repeat (first | with_reducible exact Pull.head | with_reducible apply Pull.tail)); done) | (repeat (first | exact Pull.head | apply Pull.tail)))); rfl; rfl; (with_reducible apply Tri.op); rfl; (with_reducible apply o_move); rfl; rfl; (with_reducible apply Tri.op); rfl)
  ((with_reducible apply o_slice (lo := 0) (hi := size)); (case hx => rfl); (case hr => exact rdw_ex (by (first | ((repeat (first | with_reducible exact Pull.head | with_reducible apply Pull.tail)); done) | (repeat (first | exact Pull.head | apply Pull.tail)))) hr); (case hol => first | exact fun _ _ => rfl | exact fun a ha => congrArg some (ha.eval rfl)); (case hoh => first | exact fun _ _ => rfl | exact fun a ha => congrArg some (ha.eval rfl)); (case hlo => first | exact .inr ⟨rfl, rfl⟩ | exact .inl ⟨_, rfl⟩ | exact .inl ⟨_, (by congr 2; omega)⟩); (case hhi => first | exact .inr ⟨rfl, rfl⟩ | exact .inl ⟨_, rfl⟩ | exact .inl ⟨_, (by congr 2; omega)⟩); (case hlh => omega); (case hhm => omega); (case hn => rfl))
  ((with_reducible apply Tri.op); rfl)
  ((with_reducible apply o_lenRd (hr := hm)); (case hx => rfl); (case hn => rfl))
  ((with_reducible apply Tri.op); rfl; (with_reducible apply o_move); rfl; rfl; (with_reducible refine Tri.nil (Tri.thenN (Tri.block ?_))))
  ((first | with_reducible apply Tri.loop (α := { k : Nat // k ≤ size }) (m := fun x => size - x.1) (Lx := fun x => [(0, .pointer (some ⟨r, 0, none⟩)), (1, .int .i64 (size : Int)), (5, .int .u64 (numB ((l.take size).take x.1) : Int)), (13, subv u 1 0 size), (14, .int .i64 ((l.take size).length : Int)), (15, .int .i64 (x.1 : Int))]) (Hx := fun x => [blk r 179 [u], Ex h1, Ex h0]) (x0 := ⟨0, Nat.zero_le _⟩) | with_reducible apply TriR.loop (α := { k : Nat // k ≤ size }) (m := fun x => size - x.1) (Lx := fun x => [(0, .pointer (some ⟨r, 0, none⟩)), (1, .int .i64 (size : Int)), (5, .int .u64 (numB ((l.take size).take x.1) : Int)), (13, subv u 1 0 size), (14, .int .i64 ((l.take size).length : Int)), (15, .int .i64 (x.1 : Int))]) (Hx := fun x => [blk r 179 [u], Ex h1, Ex h0]) (x0 := ⟨0, Nat.zero_le _⟩)); (case hL => ((try dsimp only); (repeat (first | exact trivial | refine And.intro (by rfl) ?_)))); (case hH => ((try dsimp only); apply St.all; (repeat (first | exact Pulls.nil | (apply Pulls.cons; (case a => (first | ((repeat (first | with_reducible exact Gv.Pull.head | with_reducible apply Gv.Pull.tail)); done) | (repeat (first | exact Gv.Pull.head | apply Gv.Pull.tail)))))))))); (rintro ⟨k, hk⟩ mx hmx; (try dsimp only at hmx ⊢))
  ((with_reducible refine Tri.seq (Tri.region ?_)); (with_reducible apply Tri.op); rfl; (with_reducible apply o_lss); rfl; rfl; rfl; (with_reducible refine Tri.nil (Tri.thenN (Tri.seq ?_))))
  ((first | with_reducible apply Tri.condD | with_reducible apply TriR.condD); (case hc => rfl); (all_goals intro h))
  · have hk' : k < (l.take size).length := by omega
    have hb := numB_lt ((l.take size).take k)
    have hb2 : numB ((l.take size).take k) < 256 ^ 7 := Nat.lt_of_lt_of_le hb (Nat.pow_le_pow_right (by omega) (by rw [List.length_take]; omega))
    ((with_reducible refine Tri.skip (Tri.thenN (Tri.seq (Tri.block (Tri.seq (Tri.region ?_)))))); (with_reducible apply Tri.op); rfl)
    ((with_reducible apply o_ixRd (hr := hm) (j := k)); (case hx => rfl); (case hy => rfl); (case hj => rfl); (case hlt => exact hk'); (case hl => (rw [B8_length]; omega)); (case hn => rfl))
    ((with_reducible apply Tri.op); rfl)
    ((with_reducible apply o_loadRd (hr := hm)); (case hx => rfl); (case p => (first | ((repeat (first | with_reducible exact Pull.head | with_reducible apply Pull.tail)); done) | (repeat (first | exact Pull.head | apply Pull.tail)))); (case hv => exact (by rw [Nat.mul_one]; exact B8_get _ k hk')); (case hn => rfl))
    ((with_reducible apply Tri.op); rfl; (with_reducible apply o_assign); rfl; rfl; (with_reducible refine Tri.nil (Tri.thenN (Tri.region ?_))); (with_reducible apply Tri.op); rfl; (with_reducible apply o_move); rfl; rfl; (with_reducible apply Tri.op); rfl; (with_reducible apply o_shl); rfl; rfl; rfl; (omega); (with_reducible apply Tri.op); rfl; (with_reducible apply o_move); rfl; rfl; (with_reducible apply Tri.op); rfl; (with_reducible apply o_conv64); rfl; rfl; (with_reducible apply Tri.op); rfl; (with_reducible apply o_or); rfl; rfl; rfl; (with_reducible apply Tri.op); rfl; (with_reducible apply o_assign); rfl; rfl; (with_reducible refine Tri.nil (Tri.blockN (Tri.thenN (Tri.region ?_)))); (with_reducible apply Tri.op); rfl; (with_reducible apply o_add64); rfl; rfl; rfl; (omega); (with_reducible apply Tri.op); rfl; (with_reducible apply o_move); rfl; rfl; (with_reducible refine Tri.nil (Tri.thenN ?_)))
    have hy : ((((l.take size)[k]'hk').toNat : Nat) : Int) % 18446744073709551616 = (((l.take size)[k]'hk').toNat : Int) := by have := ((l.take size)[k]'hk').toNat_lt; omega
    have hor := or8_64 (numB ((l.take size).take k)) ((l.take size)[k]'hk') (by omega)
    ((with_reducible apply Tri.seti 5 ((numB ((l.take size).take (k + 1)) : Int))); (case h => rfl); (case hi => (rw [numB_take (l.take size) k hk', hy]; exact hor)))
    ((with_reducible apply Tri.again (y := ⟨k + 1, by omega⟩)); (case p => ((try dsimp only); (repeat (first | exact Pulls.nil | (apply Pulls.cons; (case a => (first | ((repeat (first | with_reducible exact Gv.Pull.head | with_reducible apply Gv.Pull.tail)); done) | (repeat (first | exact Gv.Pull.head | apply Gv.Pull.tail))))))))); (case hm => ((try dsimp only); omega)); (try dsimp only))
    (repeat (first | exact trivial | refine And.intro (by rfl) ?_))
  · obtain rfl : k = size := by omega
    ((with_reducible apply Tri.seti 5 ((numB (l.take k) : Int))); (case h => rfl); (case hi => (rw [List.take_of_length_le (l := l.take k) (Nat.le_of_eq hml)])))
    ((with_reducible refine Tri.exit (Tri.thenE (Tri.thenE (Tri.blockE (Tri.thenN (Tri.seq (Tri.region ?_))))))); (with_reducible apply Tri.op); rfl; (with_reducible apply o_move); rfl; rfl; (with_reducible apply Tri.op); rfl; (with_reducible apply o_move); rfl; rfl; (with_reducible apply Tri.op); rfl; (with_reducible apply o_nilCheck); rfl; rfl; (with_reducible apply Tri.op); rfl; (with_reducible apply o_fieldAddr); rfl; rfl; (with_reducible apply Tri.op); rfl; (with_reducible apply o_load); rfl; (focus (first | ((repeat (first | with_reducible exact Pull.head | with_reducible apply Pull.tail)); done) | (repeat (first | exact Pull.head | apply Pull.tail)))); rfl; rfl; (with_reducible apply Tri.op); rfl; (with_reducible apply o_move); rfl; rfl; (with_reducible apply Tri.op); rfl)
    ((with_reducible apply o_slice (lo := k) (hi := l.length)); (case hx => rfl); (case hr => exact rdw_ex (by (first | ((repeat (first | with_reducible exact Pull.head | with_reducible apply Pull.tail)); done) | (repeat (first | exact Pull.head | apply Pull.tail)))) hr); (case hol => first | exact fun _ _ => rfl | exact fun a ha => congrArg some (ha.eval rfl)); (case hoh => first | exact fun _ _ => rfl | exact fun a ha => congrArg some (ha.eval rfl)); (case hlo => first | exact .inr ⟨rfl, rfl⟩ | exact .inl ⟨_, rfl⟩ | exact .inl ⟨_, (by congr 2; omega)⟩); (case hhi => first | exact .inr ⟨rfl, rfl⟩ | exact .inl ⟨_, rfl⟩ | exact .inl ⟨_, (by congr 2; omega)⟩); (case hlh => omega); (case hhm => omega); (case hn => rfl))
    obtain ⟨A, c, he, _⟩ := id hd
    rw [he] at hd
    ((with_reducible apply Tri.setv 31 ((.slice A (l.drop k).length c))); (case h => rfl); (case hv => exact he))
    ((with_reducible apply Tri.op); rfl; (with_reducible apply o_nilCheck); rfl; rfl; (with_reducible apply Tri.op); rfl; (with_reducible apply o_fieldAddr); rfl; rfl; (with_reducible apply Tri.op); rfl)
    ((with_reducible apply o_store); (case hx => rfl); (case hy => rfl); (case h1 => rfl); (case p => (first | ((repeat (first | with_reducible exact Pull.head | with_reducible apply Pull.tail)); done) | (repeat (first | exact Pull.head | apply Pull.tail)))); (case hi => (show 0 < 1; omega)))
    ((with_reducible refine Tri.nil (Tri.thenN (Tri.seq (Tri.region ?_)))); (with_reducible apply Tri.op); rfl; (with_reducible apply o_move); rfl; rfl; (with_reducible apply Tri.op); rfl; (with_reducible apply o_assign); rfl; rfl; (with_reducible refine Tri.nil (Tri.thenN (Tri.ret ?_))))
    ((first | with_reducible apply Tri.fin | with_reducible apply Tri.finN); (case hr => rfl); (case h => exact ResL.cons (Res1.tmp rfl) (ResL.nil)); (apply fin_R (Hn := [blk r 179 [.slice A (l.drop k).length c], Ex h1])); (case p => exact (by (repeat (first | exact Pulls.nil | (apply Pulls.cons; (case a => (first | ((repeat (first | with_reducible exact Gv.Pull.head | with_reducible apply Gv.Pull.tail)); done) | (repeat (first | exact Gv.Pull.head | apply Gv.Pull.tail))))))))); exact ⟨rfl, A, c, hd, rfl⟩)

set_option maxHeartbeats 1000000 in
theorem node_key (r : Nat) (u : Value) (l : List UInt8) (h1 : PH) (hr : Rd h1 u l.length (B8 l)) (hs : 12 ≤ l.length) : Gv.Spec Try.prog 88 #[.pointer (some ⟨r, 0, none⟩)] [blk r 179 [u], Ex h1]
    (fun x H' => x = keyV ((numB (l.take 4) : Int), s64 (numB ((l.drop 4).take 8))) ∧ ∃ A c, Rd h1 (.slice A (l.drop 12).length c) (l.drop 12).length (B8 (l.drop 12)) ∧ H' = [blk r 179 [.slice A (l.drop 12).length c], Ex h1]) := by
  refine Gv.Spec.of (fun w h0 hw => ?_)
  refine Calls.enter Try.func88 rfl rfl rfl hw ?_
  simp only [argSlots]
  (try dsimp only [List.cons_append, List.nil_append])
  have hb4 := numB_lt (l.take 4)
  rw [show (l.take 4).length = 4 by rw [List.length_take]; omega] at hb4
  have hb8 := numB_lt ((l.drop 4).take 8)
  rw [show ((l.drop 4).take 8).length = 8 by rw [List.length_take, List.length_drop]; omega] at hb8
  ((with_reducible refine Tri.seq (Tri.region ?_)); (with_reducible apply Tri.op); rfl)
  ((with_reducible apply o_alloc); (case hn => rfl); intro b2)
  ((with_reducible refine Tri.nil (Tri.thenN (Tri.seq (Tri.region ?_)))); (with_reducible apply Tri.op); rfl; (with_reducible apply o_move); rfl; rfl; (with_reducible apply Tri.op); rfl)
  ((with_reducible apply o_callS (hs := node_take r u l 4 h1 hr (by omega) (by omega))); (case hargs => (repeat first | exact evs.nil | (apply evs.cons; case a => rfl))); (case p => (repeat (first | exact Pulls.nil | (apply Pulls.cons; (case a => (first | ((repeat (first | with_reducible exact Gv.Pull.head | with_reducible apply Gv.Pull.tail)); done) | (repeat (first | exact Gv.Pull.head | apply Gv.Pull.tail)))))))); (case hn => rfl))
  rintro x1 H1 ⟨rfl, A1, c1, hr1, rfl⟩
  (try dsimp only [List.cons_append, List.nil_append])
  ((with_reducible apply Tri.op); rfl; (with_reducible apply o_convI); rfl; rfl; (first | decide | (exact wrap_i64 (by omega)) | (exact wrap_u8 (by omega)) | (exact wrap_u16 (by omega)) | (exact wrap_u32 (by omega)) | (exact wrap_u64 (by omega))); (with_reducible apply Tri.op); rfl; (with_reducible apply o_move); rfl; rfl; (with_reducible apply Tri.op); rfl)
  ((with_reducible apply o_callS (hs := node_take r (.slice A1 (l.drop 4).length c1) (l.drop 4) 8 h1 hr1 (by rw [List.length_drop]; omega) (by omega))); (case hargs => (repeat first | exact evs.nil | (apply evs.cons; case a => rfl))); (case p => (repeat (first | exact Pulls.nil | (apply Pulls.cons; (case a => (first | ((repeat (first | with_reducible exact Gv.Pull.head | with_reducible apply Gv.Pull.tail)); done) | (repeat (first | exact Gv.Pull.head | apply Gv.Pull.tail)))))))); (case hn => rfl))
  rintro x2 H2 ⟨rfl, A2, c2, hr2, rfl⟩
  rw [List.drop_drop] at hr2 ⊢
  (try dsimp only [List.cons_append, List.nil_append])
  ((with_reducible apply Tri.op); rfl; (with_reducible apply o_conv); rfl; rfl; (with_reducible apply Tri.op); rfl)
  ((with_reducible apply Tri.seti 8 ((s64 (numB ((l.drop 4).take 8))))); (case h => rfl); (case hi => exact s64_wrap _ (by omega)))
  ((with_reducible apply Tri.seti 5 ((numB (l.take 4) : Int))); (case h => rfl); (case hi => rfl))
  ((with_reducible apply o_build (ys := keyL ((numB (l.take 4) : Int), s64 (numB ((l.drop 4).take 8))))); (case hp => (repeat first | exact pev.nil | (apply pev.cons; case a => rfl))); (case hf => rfl); (case hn => rfl))
  ((with_reducible apply Tri.op); rfl)
  ((with_reducible apply o_storeAll (ys := keyL ((numB (l.take 4) : Int), s64 (numB ((l.drop 4).take 8))))); (case hx => rfl); (case hy => rfl); (case p => (first | ((repeat (first | with_reducible exact Pull.head | with_reducible apply Pull.tail)); done) | (repeat (first | exact Pull.head | apply Pull.tail)))); (case hl => rfl); (case hc => rfl); (case h1 => exact keyL_one _))
  ((with_reducible refine Tri.nil (Tri.thenN (Tri.ret ?_))))
  ((first | with_reducible apply Tri.fin | with_reducible apply Tri.finN); (case hr => rfl); (case h => exact ResL.cons ((Res1.agg rfl (by (first | ((repeat (first | with_reducible exact Pull.head | with_reducible apply Pull.tail)); done) | (repeat (first | exact Pull.head | apply Pull.tail)))) (by rw [List.drop_zero]; exact List.take_of_length_le (Nat.le_of_eq (show (keyL ((numB (l.take 4) : Int), s64 (numB ((l.drop 4).take 8)))).length = 2 from rfl))) (show (keyL ((numB (l.take 4) : Int), s64 (numB ((l.drop 4).take 8)))).length = 2 from rfl))) (ResL.nil)); (apply fin_R (Hn := [blk r 179 [.slice A2 (l.drop (4 + 8)).length c2], Ex h1])); (case p => exact (by (repeat (first | exact Pulls.nil | (apply Pulls.cons; (case a => (first | ((repeat (first | with_reducible exact Gv.Pull.head | with_reducible apply Gv.Pull.tail)); done) | (repeat (first | exact Gv.Pull.head | apply Gv.Pull.tail))))))))); exact ⟨rfl, A2, c2, hr2, rfl⟩)
end Go.Proofs.Ytckdlfbbkemklaa
