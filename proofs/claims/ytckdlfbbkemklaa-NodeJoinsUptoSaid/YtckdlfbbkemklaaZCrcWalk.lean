import Derived.Test.YtckdlfbbkemklaaZGvSeat
import Derived.Test.YtckdlfbbkemklaaZC
/- crc: what its functions answer. -/
namespace Go.Proofs.Ytckdlfbbkemklaa
open Go Go.RowKit Go.Gv
set_option linter.unusedVariables false

/-- bytes as cells -/
def B8 (l : List UInt8) : List Value := l.map fun c => .int .u8 (c.toNat : Int)
theorem B8_length (l : List UInt8) : (B8 l).length = l.length := by simp [B8]
theorem B8_sub (l : List UInt8) (lo hi : Nat) : ((B8 l).drop (lo * 1)).take ((hi - lo) * 1) = B8 ((l.drop lo).take (hi - lo)) := by simp [B8, List.map_take, List.map_drop]
theorem B8_append (a b : List UInt8) : B8 (a ++ b) = B8 a ++ B8 b := by simp [B8]
theorem B8_get (l : List UInt8) (j : Nat) (h : j < l.length) : (B8 l)[j]? = some (.int .u8 (l[j].toNat : Int)) := by simp [B8, h]
def tabL : List Value := (List.range 256).map fun i => .int .u32 ((crcTab i).toNat : Int)
theorem tabL_get (j : Nat) (h : j < 256) : tabL[j]? = some (.int .u32 ((crcTab j).toNat : Int)) := by simp [tabL, h]
def tabV : Value := .agg tabL.toArray
theorem foldl_take {α β : Type} (f : β → α → β) (b : β) (l : List α) (k : Nat) (h : k < l.length) : (l.take (k + 1)).foldl f b = f ((l.take k).foldl f b) l[k] := by
  rw [List.take_succ_eq_append_getElem h, List.foldl_append]; rfl

set_option maxHeartbeats 400000 in
theorem crc_Behind (sum : UInt32) (v : Value) (l : List UInt8) :
    SpecR Try.prog 137 #[tabV, .int .u32 (sum.toNat : Int), v] (fun w => RdW w v l.length (B8 l)) (fun r H' => r = .int .u32 ((crcBehind sum l).toNat : Int) ∧ H' = []) := by
  refine SpecR.of (fun w hr => ?_)
  have hlen := hr.le
  refine Calls.enter Try.func137 rfl rfl rfl (St.rebase w) ?_
  simp only [argSlots]
  ((with_reducible refine Tri.seq (Tri.region ?_)); (with_reducible apply Tri.op); rfl)
  (first | ((with_reducible apply o_boxA); (case hx => rfl); (case hn => rfl); intro bt) | ((with_reducible apply o_box1); (case hx => rfl); (case h1 => rfl); (case hn => rfl); intro bt))
  ((with_reducible apply Tri.op); rfl; (with_reducible apply o_assign); rfl; rfl; (with_reducible refine Tri.nil (Tri.thenN (Tri.seq (Tri.region ?_)))); (with_reducible apply Tri.op); rfl; (with_reducible apply o_move); rfl; rfl; (with_reducible apply Tri.op); rfl; (with_reducible apply o_com); rfl; rfl; (with_reducible apply Tri.op); rfl; (with_reducible apply o_assign); rfl; rfl; (with_reducible refine Tri.nil (Tri.thenN (Tri.seq (Tri.seq (Tri.region ?_))))); (with_reducible apply Tri.op); rfl; (with_reducible apply o_move); rfl; rfl; (with_reducible apply Tri.op); rfl)
  ((with_reducible apply Tri.seti 7 (((~~~ sum).toNat : Int))); (case h => rfl); (case hi => exact com32 sum))
  refine o_lenRd rfl hr rfl ?_
  ((with_reducible apply Tri.op); rfl; (with_reducible apply o_move); rfl; rfl; (with_reducible refine Tri.nil (Tri.thenN (Tri.block ?_))))
  ((first | with_reducible apply Tri.loop (α := { k : Nat // k ≤ l.length }) (m := fun x => l.length - x.1) (Lx := fun x => [(3, .pointer (some ⟨bt, 0, none⟩)), (7, .int .u32 ((crcFold (~~~ sum) (l.take x.1)).toNat : Int)), (12, v), (13, .int .i64 (l.length : Int)), (14, .int .i64 (x.1 : Int))]) (Hx := fun x => [blk bt 63 tabL, Ex (hp w)]) (x0 := ⟨0, Nat.zero_le _⟩) | with_reducible apply TriR.loop (α := { k : Nat // k ≤ l.length }) (m := fun x => l.length - x.1) (Lx := fun x => [(3, .pointer (some ⟨bt, 0, none⟩)), (7, .int .u32 ((crcFold (~~~ sum) (l.take x.1)).toNat : Int)), (12, v), (13, .int .i64 (l.length : Int)), (14, .int .i64 (x.1 : Int))]) (Hx := fun x => [blk bt 63 tabL, Ex (hp w)]) (x0 := ⟨0, Nat.zero_le _⟩)); (case hL => ((try dsimp only); (repeat (first | exact trivial | refine And.intro (by rfl) ?_)))); (case hH => ((try dsimp only); apply St.all; (repeat first | exact Pulls.nil | (apply Pulls.cons; repeat first | with_reducible exact Pull.head | apply Pull.tail))))); (rintro ⟨k, hk⟩ mx hmx; (try dsimp only at hmx ⊢))
  ((with_reducible refine Tri.seq (Tri.region ?_)); (with_reducible apply Tri.op); rfl; (with_reducible apply o_lss); rfl; rfl; rfl; (with_reducible refine Tri.nil (Tri.thenN (Tri.seq ?_))))
  ((first | with_reducible apply Tri.condD | with_reducible apply TriR.condD); (case hc => rfl); (all_goals intro h))
  · have hk' : k < l.length := by omega
    ((with_reducible refine Tri.skip (Tri.thenN (Tri.seq (Tri.block (Tri.seq (Tri.region ?_)))))); (with_reducible apply Tri.op); rfl)
    ((with_reducible apply o_ixRd (hr := hr)); (case hx => rfl); (case hy => rfl); (case hj => first | rfl | exact (Int.toNat_of_nonneg (by omega)).symm); (case hlt => first | omega | assumption); (case hl => (rw [B8_length]; omega)); (case hn => rfl))
    ((with_reducible apply Tri.op); rfl)
    ((with_reducible apply o_loadRd (hr := hr)); (case hx => rfl); (case p => (repeat first | with_reducible exact Pull.head | apply Pull.tail)); (case hv => exact (by rw [Nat.mul_one]; exact B8_get l k hk')); (case hn => rfl))
    ((with_reducible apply Tri.op); rfl; (with_reducible apply o_assign); rfl; rfl; (with_reducible refine Tri.nil (Tri.thenN (Tri.region ?_))); (with_reducible apply Tri.op); rfl; (with_reducible apply o_move); rfl; rfl; (with_reducible apply Tri.op); rfl; (with_reducible apply o_shr); rfl; rfl; rfl; (omega); (with_reducible apply Tri.op); rfl; (with_reducible apply o_move); rfl; rfl; (with_reducible apply Tri.op); rfl; (with_reducible apply o_conv8); rfl; rfl; (with_reducible apply Tri.op); rfl; (with_reducible apply o_move); rfl; rfl; (with_reducible apply Tri.op); rfl; (with_reducible apply o_xor); rfl; rfl; rfl; (with_reducible apply Tri.op); rfl)
    ((with_reducible apply Tri.seti 23 ((((crcFold (~~~sum) (l.take k)).toUInt8 ^^^ l[k]).toNat : Int))); (case h => rfl); (case hi => rw [← wrapu8, low8, xor8]))
    ((with_reducible apply o_ixArr); (case hx => rfl); (case hy => rfl); (case hj => first | rfl | exact (Int.toNat_of_nonneg (by omega)).symm); (case hlt => exact UInt8.toNat_lt _); (case hn => rfl))
    ((with_reducible apply Tri.op); (case hg => rfl))
    ((with_reducible apply o_load); (case hx => rfl); (case p => (repeat first | with_reducible exact Pull.head | apply Pull.tail)); (case hv => exact (by rw [Nat.zero_add, Nat.mul_one]; exact tabL_get _ (UInt8.toNat_lt _))); (case hn => rfl))
    ((with_reducible apply Tri.op); rfl; (with_reducible apply o_xor); rfl; rfl; rfl; (with_reducible apply Tri.op); rfl; (with_reducible apply o_assign); rfl; rfl; (with_reducible refine Tri.nil (Tri.blockN (Tri.thenN (Tri.region ?_)))); (with_reducible apply Tri.op); rfl; (with_reducible apply o_add64); rfl; rfl; rfl; (omega); (with_reducible apply Tri.op); rfl; (with_reducible apply o_move); rfl; rfl; (with_reducible refine Tri.nil (Tri.thenN ?_)))
    ((with_reducible apply Tri.seti 7 (((crcFold (~~~sum) (l.take (k + 1))).toNat : Int))); (case h => rfl); (case hi => (unfold crcFold; rw [foldl_take _ _ _ _ hk', crcByte, shr32 _ 8 (by omega) 8 rfl, xor32]; rfl)))
    ((with_reducible apply Tri.again (y := ⟨k + 1, Nat.succ_le_of_lt hk'⟩)); (case p => ((try dsimp only); (repeat first | exact Pulls.nil | (apply Pulls.cons; repeat first | with_reducible exact Pull.head | apply Pull.tail)))); (case hm => ((try dsimp only); omega)); (try dsimp only))
    (repeat (first | exact trivial | refine And.intro (by rfl) ?_))
  · ((with_reducible refine Tri.exit (Tri.thenE (Tri.thenE (Tri.blockE (Tri.thenN (Tri.seq (Tri.region ?_))))))); (with_reducible apply Tri.op); rfl; (with_reducible apply o_move); rfl; rfl; (with_reducible apply Tri.op); rfl; (with_reducible apply o_com); rfl; rfl; (with_reducible apply Tri.op); rfl; (with_reducible apply o_assign); rfl; rfl; (with_reducible refine Tri.nil (Tri.thenN (Tri.ret ?_))))
    have e : k = l.length := by omega
    subst e
    ((first | with_reducible apply Tri.fin | with_reducible apply Tri.finN); (case hr => rfl); (case h => (repeat (first | exact ResL.nil | (apply ResL.cons; (case a => (first | exact Res1.tmp rfl | (apply Res1.cell; rfl; (repeat first | with_reducible exact Pull.head | apply Pull.tail); rfl) | (apply Res1.agg; rfl; (repeat first | with_reducible exact Pull.head | apply Pull.tail); rfl; rfl))))))); (apply fin_R (Hn := [])); (case p => (repeat first | exact Pulls.nil | (apply Pulls.cons; repeat first | with_reducible exact Pull.head | apply Pull.tail))))
    exact ⟨by rw [com32, List.take_length]; rfl, rfl⟩

theorem B8_one (l : List UInt8) : ∀ y ∈ B8 l, y.oneCell' = true := by
  intro y hy; simp [B8] at hy; obtain ⟨c, _, rfl⟩ := hy; rfl
theorem tabL_one : ∀ y ∈ tabL, y.oneCell' = true := by
  intro y hy; simp [tabL] at hy; obtain ⟨c, _, rfl⟩ := hy; rfl
theorem tabL_length : tabL.length = 256 := by simp [tabL]

set_option maxHeartbeats 400000 in
theorem crc_Sum (v : Value) (l : List UInt8) :
    SpecR Try.prog 119 #[tabV, v] (fun w => RdW w v l.length (B8 l)) (fun r H' => r = .int .u32 ((crcSum l).toNat : Int) ∧ H' = []) := by
  refine SpecR.of (fun w hr => ?_)
  refine Calls.enter Try.func119 rfl rfl rfl (St.rebase w) ?_
  simp only [argSlots]
  ((with_reducible refine Tri.seq (Tri.region ?_)); (with_reducible apply Tri.op); rfl)
  (first | ((with_reducible apply o_boxA); (case hx => rfl); (case hn => rfl); intro bt) | ((with_reducible apply o_box1); (case hx => rfl); (case h1 => rfl); (case hn => rfl); intro bt))
  ((with_reducible apply Tri.op); rfl; (with_reducible apply o_assign); rfl; rfl; (with_reducible refine Tri.nil (Tri.thenN (Tri.seq (Tri.region ?_)))); (with_reducible apply Tri.op); rfl)
  ((with_reducible apply o_loadAll); (case hx => rfl); (case p => (repeat first | with_reducible exact Pull.head | apply Pull.tail)); (case hl => exact tabL_length); (case hn => rfl))
  ((with_reducible apply Tri.op); rfl; (with_reducible apply o_move); rfl; rfl; (with_reducible apply Tri.op); rfl)
  ((with_reducible apply o_callR (hs := crc_Behind 0 v l)); (case hargs => (repeat first | exact evs.nil | (apply evs.cons; case a => rfl))); (case hpre => exact rdw_ex (by (repeat first | with_reducible exact Pull.head | apply Pull.tail)) hr); (case hn => rfl))
  rintro v_ H_ ⟨rfl, rfl⟩
  ((with_reducible apply Tri.op); rfl; (with_reducible apply o_assign); rfl; rfl; (with_reducible refine Tri.nil (Tri.thenN (Tri.ret ?_))))
  ((first | with_reducible apply Tri.fin | with_reducible apply Tri.finN); (case hr => rfl); (case h => (repeat (first | exact ResL.nil | (apply ResL.cons; (case a => (first | exact Res1.tmp rfl | (apply Res1.cell; rfl; (repeat first | with_reducible exact Pull.head | apply Pull.tail); rfl) | (apply Res1.agg; rfl; (repeat first | with_reducible exact Pull.head | apply Pull.tail); rfl; rfl))))))); (apply fin_R (Hn := [])); (case p => (repeat first | exact Pulls.nil | (apply Pulls.cons; repeat first | with_reducible exact Pull.head | apply Pull.tail))))
  exact ⟨rfl, rfl⟩

theorem crc_bit_run (j : Nat) (x : UInt32) :
    Go.bits .xor .u32 (((crcBits j x).toNat : Int) / 2 ^ min (Int.toNat 1) IntKind.u32.bits) (Go.bits .and .u32 2197175160 (IntKind.u32.wrap (0 - Go.bits .and .u32 ((crcBits j x).toNat : Int) 1))) = ((crcBits (j + 1) x).toNat : Int) := by
  have h1 : Go.bits .and .u32 ((crcBits j x).toNat : Int) 1 = (((crcBits j x) &&& 1).toNat : Int) := and32 _ 1
  rw [h1, neg32, show (2197175160 : Int) = ((0x82F63B78 : UInt32).toNat : Int) from rfl, and32, shr32 _ 1 (by omega) 1 rfl, xor32, crcBits_succ]
  rfl

/-- the table as far as it is made -/
def tabTo (k : Nat) : List Value := (List.range k).map (fun i => .int .u32 ((crcTab i).toNat : Int)) ++ List.replicate (256 - k) (.int .u32 0)
theorem tabTo_length (k : Nat) (h : k ≤ 256) : (tabTo k).length = 256 := by simp [tabTo]; omega
theorem tabTo_256 : tabTo 256 = tabL := by unfold tabTo tabL; rw [Nat.sub_self, List.replicate_zero, List.append_nil]
theorem tabTo_set (k : Nat) (h : k < 256) : (tabTo k).set k (.int .u32 ((crcTab k).toNat : Int)) = tabTo (k + 1) := by
  unfold tabTo
  have e : 256 - k = (256 - (k + 1)) + 1 := by omega
  rw [List.set_append_right _ _ (by simp), e, List.replicate_succ, List.range_succ]
  simp

set_option maxHeartbeats 400000 in
theorem crc_New : SpecR Try.prog 26 #[] (fun _ => True) (fun r H' => r = tabV ∧ H' = []) := by
  refine SpecR.of (fun w _ => ?_)
  refine Calls.enter Try.func26 rfl rfl rfl (St.rebase w) ?_
  simp only [argSlots]
  ((with_reducible refine Tri.seq (Tri.region ?_)); (with_reducible apply Tri.op); rfl)
  ((with_reducible apply o_alloc); (case hn => rfl); intro br)
  ((with_reducible refine Tri.nil (Tri.thenN (Tri.seq (Tri.region ?_)))); (with_reducible apply Tri.op); rfl)
  ((with_reducible apply o_alloc); (case hn => rfl); intro bt)
  ((with_reducible refine Tri.nil (Tri.thenN (Tri.seq (Tri.seq (Tri.region ?_))))); (with_reducible apply Tri.op); rfl; (with_reducible apply o_move); rfl; rfl; (with_reducible refine Tri.nil (Tri.thenN (Tri.block ?_))))
  ((with_reducible apply Tri.eqA (A := blk bt 63 (List.replicate 256 (.int .u32 0))) (B := blk bt 63 (tabTo 0))); (case p => (repeat first | with_reducible exact Pull.head | apply Pull.tail)); (case e => rfl))
  ((first | with_reducible apply Tri.loop (α := { k : Nat // k ≤ 256 }) (m := fun x => 256 - x.1) (Lx := fun x => [(0, .pointer (some ⟨br, 0, none⟩)), (1, .pointer (some ⟨bt, 0, none⟩)), (4, .int .i64 (x.1 : Int))]) (Hx := fun x => [blk br 63 (List.replicate 256 (.int .u32 0)), blk bt 63 (tabTo x.1), Ex (hp w)]) (x0 := ⟨0, Nat.zero_le _⟩) | with_reducible apply TriR.loop (α := { k : Nat // k ≤ 256 }) (m := fun x => 256 - x.1) (Lx := fun x => [(0, .pointer (some ⟨br, 0, none⟩)), (1, .pointer (some ⟨bt, 0, none⟩)), (4, .int .i64 (x.1 : Int))]) (Hx := fun x => [blk br 63 (List.replicate 256 (.int .u32 0)), blk bt 63 (tabTo x.1), Ex (hp w)]) (x0 := ⟨0, Nat.zero_le _⟩)); (case hL => ((try dsimp only); (repeat (first | exact trivial | refine And.intro (by rfl) ?_)))); (case hH => ((try dsimp only); apply St.all; (repeat first | exact Pulls.nil | (apply Pulls.cons; repeat first | with_reducible exact Pull.head | apply Pull.tail))))); (rintro ⟨k, hk⟩ mx hmx; (try dsimp only at hmx ⊢))
  ((with_reducible refine Tri.seq (Tri.region ?_)); (with_reducible apply Tri.op); rfl; (with_reducible apply o_lss); rfl; rfl; rfl; (with_reducible refine Tri.nil (Tri.thenN (Tri.seq ?_))))
  ((first | with_reducible apply Tri.condD | with_reducible apply TriR.condD); (case hc => rfl); (all_goals intro h))
  · ((with_reducible refine Tri.skip (Tri.thenN (Tri.seq (Tri.block (Tri.seq (Tri.region ?_)))))); (with_reducible apply Tri.op); rfl; (with_reducible apply o_move); rfl; rfl; (with_reducible apply Tri.op); rfl; (with_reducible apply o_assign); rfl; rfl; (with_reducible refine Tri.nil (Tri.thenN (Tri.seq (Tri.region ?_)))); (with_reducible apply Tri.op); rfl; (with_reducible apply o_move); rfl; rfl; (with_reducible apply Tri.op); rfl; (with_reducible apply o_convI); rfl; rfl; (first | decide | (exact wrap_i64 (by omega)) | (exact wrap_u8 (by omega)) | (exact wrap_u16 (by omega)) | (exact wrap_u32 (by omega)) | (exact wrap_u64 (by omega))); (with_reducible apply Tri.op); rfl; (with_reducible apply o_assign); rfl; rfl; (with_reducible refine Tri.nil (Tri.thenN (Tri.seq (Tri.seq (Tri.region ?_))))); (with_reducible apply Tri.op); rfl; (with_reducible apply o_move); rfl; rfl; (with_reducible refine Tri.nil (Tri.thenN (Tri.block ?_))))
    have hk' : k < 256 := by omega
    ((with_reducible apply Tri.seti 3 (((crcBits 0 (UInt32.ofNat k)).toNat : Int))); (case h => rfl); (case hi => (simp only [crcBits, UInt32.toNat_ofNat']; omega)))
    ((first | with_reducible apply Tri.loop (α := { j : Nat // j ≤ 8 }) (m := fun x => 8 - x.1) (Lx := fun x => [(0, .pointer (some ⟨br, 0, none⟩)), (1, .pointer (some ⟨bt, 0, none⟩)), (4, .int .i64 (k : Int)), (2, .int .i64 (k : Int)), (9, .int .i64 (x.1 : Int)), (3, .int .u32 ((crcBits x.1 (UInt32.ofNat k)).toNat : Int))]) (Hx := fun _ => [blk br 63 (List.replicate 256 (.int .u32 0)), blk bt 63 (tabTo k), Ex (hp w)]) (x0 := ⟨0, Nat.zero_le _⟩) | with_reducible apply TriR.loop (α := { j : Nat // j ≤ 8 }) (m := fun x => 8 - x.1) (Lx := fun x => [(0, .pointer (some ⟨br, 0, none⟩)), (1, .pointer (some ⟨bt, 0, none⟩)), (4, .int .i64 (k : Int)), (2, .int .i64 (k : Int)), (9, .int .i64 (x.1 : Int)), (3, .int .u32 ((crcBits x.1 (UInt32.ofNat k)).toNat : Int))]) (Hx := fun _ => [blk br 63 (List.replicate 256 (.int .u32 0)), blk bt 63 (tabTo k), Ex (hp w)]) (x0 := ⟨0, Nat.zero_le _⟩)); (case hL => ((try dsimp only); (repeat (first | exact trivial | refine And.intro (by rfl) ?_)))); (case hH => ((try dsimp only); apply St.all; (repeat first | exact Pulls.nil | (apply Pulls.cons; repeat first | with_reducible exact Pull.head | apply Pull.tail))))); (rintro ⟨j, hj⟩ mx hmx; (try dsimp only at hmx ⊢))
    ((with_reducible refine Tri.seq (Tri.region ?_)); (with_reducible apply Tri.op); rfl; (with_reducible apply o_lss); rfl; rfl; rfl; (with_reducible refine Tri.nil (Tri.thenN (Tri.seq ?_))))
    ((first | with_reducible apply Tri.condD | with_reducible apply TriR.condD); (case hc => rfl); (all_goals intro h2))
    · ((with_reducible refine Tri.skip (Tri.thenN (Tri.seq (Tri.block (Tri.region ?_))))); (with_reducible apply Tri.op); rfl; (with_reducible apply o_move); rfl; rfl; (with_reducible apply Tri.op); rfl; (with_reducible apply o_shr); rfl; rfl; rfl; (omega); (with_reducible apply Tri.op); rfl; (with_reducible apply o_move); rfl; rfl; (with_reducible apply Tri.op); rfl; (with_reducible apply o_and); rfl; rfl; rfl; (with_reducible apply Tri.op); rfl; (with_reducible apply o_neg); rfl; rfl; (with_reducible apply Tri.op); rfl; (with_reducible apply o_and); rfl; rfl; rfl; (with_reducible apply Tri.op); rfl; (with_reducible apply o_xor); rfl; rfl; rfl; (with_reducible apply Tri.op); rfl; (with_reducible apply o_assign); rfl; rfl; (with_reducible refine Tri.nil (Tri.blockN (Tri.thenN (Tri.region ?_)))); (with_reducible apply Tri.op); rfl; (with_reducible apply o_add64); rfl; rfl; rfl; (omega); (with_reducible apply Tri.op); rfl; (with_reducible apply o_move); rfl; rfl; (with_reducible refine Tri.nil (Tri.thenN ?_)))
      ((with_reducible apply Tri.seti 3 (((crcBits (j + 1) (UInt32.ofNat k)).toNat : Int))); (case h => rfl); (case hi => exact crc_bit_run j _))
      ((with_reducible apply Tri.again (y := ⟨j + 1, by omega⟩)); (case p => ((try dsimp only); (repeat first | exact Pulls.nil | (apply Pulls.cons; repeat first | with_reducible exact Pull.head | apply Pull.tail)))); (case hm => ((try dsimp only); omega)); (try dsimp only))
      (repeat (first | exact trivial | refine And.intro (by rfl) ?_))
    · have e : j = 8 := by omega
      subst e
      ((with_reducible refine Tri.exit (Tri.thenE (Tri.thenE (Tri.blockE (Tri.thenN (Tri.region ?_)))))); (with_reducible apply Tri.op); rfl; (with_reducible apply o_move); rfl; rfl; (with_reducible apply Tri.op); rfl; (with_reducible apply o_move); rfl; rfl; (with_reducible apply Tri.op); rfl; (with_reducible apply o_ixArr); rfl; rfl; (first | rfl | exact (Int.toNat_of_nonneg (by omega)).symm); (first | omega | assumption); rfl; (with_reducible apply Tri.op); rfl)
      ((with_reducible apply o_store); (case hx => rfl); (case hy => rfl); (case h1 => rfl); (case p => (repeat first | with_reducible exact Pull.head | apply Pull.tail)); (case hi => (rw [tabTo_length k hk]; omega)))
      ((with_reducible apply Tri.eqA (A := blk bt 63 _) (B := blk bt 63 (tabTo (k + 1)))); (case p => (repeat first | with_reducible exact Pull.head | apply Pull.tail)); (case e => (rw [Nat.zero_add, Nat.mul_one]; exact congrArg _ (tabTo_set k hk'))))
      ((with_reducible refine Tri.nil (Tri.blockN (Tri.thenN (Tri.region ?_)))); (with_reducible apply Tri.op); rfl; (with_reducible apply o_add64); rfl; rfl; rfl; (omega); (with_reducible apply Tri.op); rfl; (with_reducible apply o_move); rfl; rfl; (with_reducible refine Tri.nil (Tri.thenN ?_)))
      ((with_reducible apply Tri.again (y := ⟨k + 1, by omega⟩)); (case p => ((try dsimp only); (repeat first | exact Pulls.nil | (apply Pulls.cons; repeat first | with_reducible exact Pull.head | apply Pull.tail)))); (case hm => ((try dsimp only); omega)); (try dsimp only))
      (repeat (first | exact trivial | refine And.intro (by rfl) ?_))
  · have e : k = 256 := by omega
    subst e
    ((with_reducible refine Tri.exit (Tri.thenE (Tri.thenE (Tri.blockE (Tri.thenN (Tri.seq (Tri.region ?_))))))); (with_reducible apply Tri.op); rfl)
    ((with_reducible apply Tri.eqA (A := blk bt 63 (tabTo 256)) (B := blk bt 63 tabL)); (case p => (repeat first | with_reducible exact Pull.head | apply Pull.tail)); (case e => (show blk bt 63 (tabTo 256) = _; rw [tabTo_256])))
    ((with_reducible apply o_loadAll); (case hx => rfl); (case p => (repeat first | with_reducible exact Pull.head | apply Pull.tail)); (case hl => exact tabL_length); (case hn => rfl))
    ((with_reducible apply Tri.op); rfl)
    ((with_reducible apply o_storeAll); (case hx => rfl); (case hy => rfl); (case p => (repeat first | with_reducible exact Pull.head | apply Pull.tail)); (case hl => exact tabL_length); (case hc => exact List.length_replicate); (case h1 => exact tabL_one))
    ((with_reducible refine Tri.nil (Tri.thenN (Tri.ret ?_))))
    (first | with_reducible apply Tri.fin | with_reducible apply Tri.finN)
    case hr => rfl
    case h => exact ResL.cons (Res1.agg rfl (by (repeat first | with_reducible exact Pull.head | apply Pull.tail)) (by rw [List.drop_zero]; exact List.take_of_length_le (Nat.le_of_eq tabL_length)) tabL_length) ResL.nil
    apply fin_R (Hn := [])
    case p => exact (by (repeat first | exact Pulls.nil | (apply Pulls.cons; repeat first | with_reducible exact Pull.head | apply Pull.tail)))
    exact ⟨rfl, rfl⟩
end Go.Proofs.Ytckdlfbbkemklaa
