/- Texts of this claim, put together: NdWalk, NdWalk2, NdWalk3, NdWalk4, NdWalk5, NdWalk6, NdWalk7, BmPlain, BmWalk, BmPlain2, BmWalk2, BmWalk3, NjPlain, NdWalk9, SlWalk, SlWalk3, NjWalk, NjPlain2. -/
import Derived.Test.YtcglabmlhljkmaaGreatZ02
import Derived.Test.YtcglabmlhljkmaaGreatZ03
import Derived.Test.YtcglabmlhljkmaaGreatZ01
section
/- node: what its small functions answer. -/
namespace Go.Proofs.YtcglabmlhljkmaaGreat
open Go Go.RowKit Go.Gv
set_option linter.unusedVariables false
set_option linter.unusedSimpArgs false

def keyL (k : KEY) : List Value := [.int .i64 k.1, .int .i64 k.2]
def keyV (k : KEY) : Value := .agg (keyL k).toArray
def KL (ks : List KEY) : List Value := ks.flatMap keyL
def NL (l : List Int) : List Value := l.map (.int .i64)
theorem NL_get (l : List Int) (i : Nat) (h : i < l.length) : (NL l)[i]? = some (.int .i64 (l.getD i 0)) := by
  rw [NL, List.getElem?_map, List.getElem?_eq_getElem h, List.getD_eq_getElem?_getD, List.getElem?_eq_getElem h]; rfl
theorem NL_sub (l : List Int) (hi : Nat) : ((NL l).drop (0 * 1)).take ((hi - 0) * 1) = NL (l.take hi) := by simp [NL, List.map_take]
theorem NL_length (l : List Int) : (NL l).length = l.length := by simp [NL]
theorem KL_length : ∀ ks, (KL ks).length = ks.length * 2
  | [] => rfl
  | x :: W => by
    have := KL_length W
    simp only [KL, keyL, List.flatMap_cons, List.length_append, List.length_cons, List.length_nil] at this ⊢; omega
theorem KL_drop : ∀ (F : List KEY) (k : Nat), (KL F).drop (k * 2) = KL (F.drop k)
  | F, 0 => rfl
  | [], k + 1 => by simp [KL]
  | x :: F, k + 1 => by
    rw [show (k + 1) * 2 = k * 2 + 2 by omega, ← List.drop_drop, List.drop_drop, Nat.add_comm, ← List.drop_drop]
    exact KL_drop F k
theorem KL_two (F : List KEY) (k : Nat) (h : k < F.length) : ((KL F).drop (k * 2)).take 2 = keyL (F.getD k (0, 0)) := by
  rw [KL_drop, List.drop_eq_getElem_cons h, List.getD_eq_getElem?_getD, List.getElem?_eq_getElem h]; rfl
theorem keyL_one (k : KEY) : ∀ y ∈ keyL k, y.oneCell' = true := by
  intro y hy; simp [keyL] at hy; rcases hy with rfl | rfl <;> rfl

set_option maxHeartbeats 1000000 in
theorem node_between (n low high : Int) : SpecR Tryz.prog 140 #[.int .i64 n, .int .i64 low, .int .i64 high] (fun _ => True) (fun r H' => r = .bool (betw n low high) ∧ H' = []) := by
  refine SpecR.of (fun w _ => ?_)
  refine Calls.enter Tryz.func140 rfl rfl rfl (St.rebase w) ?_
  simp only [argSlots]
  refine Ws ?_
  (refine ZcB 10 ?_ ?_ <;> intro h)
  · have g := of_decide_eq_true h
    refine Ws ?_
    exact Zfr (hq := by simp only [tupled]; (rw [betw, decide_eq_true g, Bool.true_and]))
  · have g := of_decide_eq_false h
    refine Ws ?_
    exact Zfr (hq := by simp only [tupled]; (rw [betw, decide_eq_false g, Bool.false_and]))

set_option maxHeartbeats 1000000 in
theorem node_rightKey (k : KEY) : SpecR Tryz.prog 141 #[keyV k] (fun _ => True) (fun r H' => r = .bool (keyOk k) ∧ H' = []) := by
  refine SpecR.of (fun w _ => ?_)
  refine Calls.enter Tryz.func141 rfl rfl rfl (St.rebase w) ?_
  simp only [argSlots]
  refine Ws ?_
  (refine Wbx ?_; intro b1)
  refine Ws ?_
  refine Zcv (node_between k.1 0 4294967295) ?_
  refine Ws ?_
  exact Zfr (hq := by simp only [tupled]; rfl)

set_option maxHeartbeats 1000000 in
theorem node_Less (a b : KEY) : SpecR Tryz.prog 56 #[keyV a, keyV b] (fun _ => True) (fun r H' => r = .bool (lessK a b) ∧ H' = []) := by
  refine SpecR.of (fun w _ => ?_)
  refine Calls.enter Tryz.func56 rfl rfl rfl (St.rebase w) ?_
  simp only [argSlots]
  refine Ws ?_
  (refine Wbx ?_; intro b2)
  refine Ws ?_
  (refine Wbx ?_; intro b3)
  refine Ws ?_
  (refine ZcB 10 ?_ ?_ <;> intro h1)
  · have g1 := of_decide_eq_true h1
    refine Ws ?_
    exact Zfr (hq := by simp only [tupled]; (rw [lessK, decide_eq_true g1, Bool.true_or]))
  · have g1 := of_decide_eq_false h1
    refine Ws ?_
    (refine ZcB 16 ?_ ?_ <;> intro h2)
    · have g2 := of_decide_eq_true h2
      refine Ws ?_
      exact Zfr (hq := by simp only [tupled]; (rw [lessK, decide_eq_false g1, decide_eq_true g2, Bool.false_or, Bool.true_and]))
    · have g2 := of_decide_eq_false h2
      refine Ws ?_
      exact Zfr (hq := by simp only [tupled]; (rw [lessK, decide_eq_false g1, decide_eq_false g2]; rfl))

set_option maxHeartbeats 1000000 in
theorem slices_Index (v : Value) (l : List Int) (n : Int) : SpecR Tryz.prog 174 #[v, .int .i64 n] (fun w => RdW w v l.length (NL l)) (fun r H' => ∃ k : Int, r = .int .i64 k ∧ (0 ≤ k ↔ n ∈ l) ∧ H' = []) := by
  refine SpecR.of (fun w hr => ?_)
  have hlen := hr.le
  refine Calls.enter Tryz.func174 rfl rfl rfl (St.rebase w) ?_
  simp only [argSlots]
  refine Ws ?_
  refine Zlr2 (hr := hr) ?_
  refine Ws ?_
  (refine Wl (α := { i : Nat // i ≤ l.length ∧ n ∉ l.take i }) (fun x => l.length - x.1) (fun x => [(0, v), (1, .int .i64 n), (7, .int .i64 (l.length : Int)), (8, .int .i64 (x.1 : Int))]) (fun x => [Ex (hp w)]) ⟨0, Nat.zero_le _, by simp⟩ ?_; rintro ⟨i, hi, hno⟩ mx hmx; (try dsimp only at hmx ⊢))
  refine Ws ?_
  (refine Wcd ?_ ?_ <;> intro h)
  · have hil : i < l.length := by omega
    have hgd : l.getD i 0 = l[i] := by rw [List.getD_eq_getElem?_getD, List.getElem?_eq_getElem hil]; rfl
    refine Ws ?_
    refine Zir (hr := hr) (j := i) ?_ (hj := by rfl) (hlt := by exact hil) (hl := by rw [NL_length]; omega)
    refine Ws ?_
    refine Zlr (hr := hr) ?_ (hv := by exact (by rw [Nat.mul_one]; exact NL_get l i hil))
    refine Ws ?_
    (refine Wcd ?_ ?_ <;> intro hq)
    · refine Ws ?_
      exact Zfn [] (hq := by exact ⟨(i : Int), rfl, ⟨fun _ => by rw [hq, hgd]; exact List.getElem_mem hil, fun _ => by omega⟩, rfl⟩)
    · have hno2 : n ∉ l.take (i + 1) := fun hm => by
        rw [List.take_succ_eq_append_getElem hil] at hm
        rcases List.mem_append.1 hm with hm | hm
        · exact hno hm
        · simp at hm; exact hq (by rw [hgd]; exact hm)
      refine Ws ?_
      exact Zag ⟨i + 1, by omega, hno2⟩
  · obtain rfl : i = l.length := by omega
    rw [List.take_length] at hno
    refine Ws ?_
    exact Zfn [] (hq := by exact ⟨-1, rfl, ⟨fun h => absurd h (by omega), fun h => absurd h hno⟩, rfl⟩)

set_option maxHeartbeats 1000000 in
theorem slices_Contains (v : Value) (l : List Int) (n : Int) : SpecR Tryz.prog 142 #[v, .int .i64 n] (fun w => RdW w v l.length (NL l)) (fun r H' => r = .bool (decide (n ∈ l)) ∧ H' = []) := by
  refine SpecR.of (fun w hr => ?_)
  refine Calls.enter Tryz.func142 rfl rfl rfl (St.rebase w) ?_
  simp only [argSlots]
  refine Ws ?_
  refine Zcr (slices_Index v l n) ?_ (hpre := by exact rdw_ex Wp hr)
  rintro r1 H1 ⟨k, rfl, hk, rfl⟩
  refine Wap ?_
  refine Ws ?_
  exact Zfr (hq := by simp only [tupled]; (congr 1; exact decide_eq_decide.2 hk))

theorem keyAt_lt {ks : List KEY} {i n : Nat} (h : keyAt ks i = false) (hi : i < n) : keysTo ks n = false := keysTo_mono ks (i := i + 1) (by rw [keysTo, h, Bool.and_false]) n (by omega)
theorem kidAt_lt {ks : List Int} {i n : Nat} (h : kidAt ks i = false) (hi : i < n) : kidsTo ks n = false := kidsTo_mono ks (i := i + 1) (by rw [kidsTo, h, Bool.and_false]) n (by omega)
theorem inner_nok {ks : List KEY} {kids : List Int} (h : keysTo ks ks.length = false) : innerB ks kids = false := by rw [innerB, h]; rfl
theorem inner_nod {ks : List KEY} {kids : List Int} (h : kidsTo kids kids.length = false) : innerB ks kids = false := by rw [innerB, h, Bool.and_false]; rfl
set_option maxHeartbeats 4000000 in
theorem node_inner (kv dv : Value) (ks : List KEY) (kids : List Int) : SpecR Tryz.prog 99 #[kv, dv] (fun w => RdW w kv ks.length (KL ks) ∧ RdW w dv kids.length (NL kids)) (fun r H' => r = .bool (innerB ks kids) ∧ H' = []) := by
  refine SpecR.of (fun w hrr => ?_)
  obtain ⟨hr1, hr2⟩ := hrr
  have hlen1 := hr1.le
  have hlen2 := hr2.le
  refine Calls.enter Tryz.func99 rfl rfl rfl (St.rebase w) ?_
  simp only [argSlots]
  refine Ws ?_
  refine Zlr2 (hr := hr1) ?_
  refine Ws ?_
  (refine Wl (α := { i : Nat // i ≤ ks.length ∧ keysTo ks i = true }) (fun x => ks.length - x.1) (fun x => [(0, kv), (1, dv), (9, kv), (10, .int .i64 (ks.length : Int)), (11, .int .i64 (x.1 : Int))]) (fun x => [Ex (hp w)]) ⟨0, Nat.zero_le _, rfl⟩ ?_; rintro ⟨i, hi, hks⟩ mx hmx; (try dsimp only at hmx ⊢))
  refine Ws ?_
  (refine Wcd ?_ ?_ <;> intro h)
  · have hil : i < ks.length := by omega
    refine Ws ?_
    refine Zir (hr := hr1) (j := i) ?_ (hj := by rfl) (hlt := by exact hil) (hl := by rw [KL_length]; omega)
    refine Ws ?_
    refine Zlh (hr := hr1) ?_ (hv := by exact KL_two ks i hil) (hl := by rfl)
    refine Ws ?_
    refine Zal fun b6 => ?_
    refine Ws ?_
    refine ZSa (ys := keyL (ks.getD i (0, 0))) ?_ (h1 := by exact keyL_one _)
    refine Ws ?_
    ((with_reducible apply Tri.quiet); (case hB => kernel_rfl))
    refine Zqo (h := fun _ x => by exact Zla x (hl := by rfl)) (k := ?_)
    refine Zqo (h := fun _ x => by exact Zcv (node_rightKey (ks.getD i (0, 0))) x) (k := ?_)
    refine Wqs ?_
    ((with_reducible apply TriQ.casesB 19); (case h => rfl); (all_goals intro g1))
    · have g1' : keyOk (ks.getD i (0, 0)) = false := by simpa using g1
      refine Wqs ?_
      refine Ws ?_
      exact Zfr (hq := by simp only [tupled]; (rw [inner_nok (keyAt_lt (by rw [keyAt, g1']; rfl) hil)]))
    · have g1' : keyOk (ks.getD i (0, 0)) = true := by simpa using g1
      refine Wqs ?_
      ((with_reducible apply TriQ.casesB 22); (case h => rfl); (all_goals intro g2))
      · have g2' := of_decide_eq_true g2
        refine Wqs ?_
        refine Zqo (h := fun _ x => by exact Zir (hr := hr1) (j := i - 1) x (hj := by omega) (hlt := by omega) (hl := by rw [KL_length]; omega)) (k := ?_)
        refine Zqo (h := fun _ x => by exact Zlh (hr := hr1) x (hv := by exact KL_two ks (i - 1) (by omega)) (hl := by rfl)) (k := ?_)
        refine Zqo (h := fun _ x => by exact Zla x (hl := by rfl)) (k := ?_)
        refine Zqo (h := fun _ x => by exact Zcv (node_Less (ks.getD (i - 1) (0, 0)) (ks.getD i (0, 0))) x) (k := ?_)
        refine Wqs ?_
        refine Ws ?_
        (refine Wcb ?_ ?_ <;> intro g3)
        · have g3' : lessK (ks.getD (i - 1) (0, 0)) (ks.getD i (0, 0)) = false := by simpa using g3
          refine Ws ?_
          exact Zfr (hq := by simp only [tupled]; (rw [inner_nok (keyAt_lt (by rw [keyAt, g3', decide_eq_false (by omega)]; simp) hil)]))
        · have g3' : lessK (ks.getD (i - 1) (0, 0)) (ks.getD i (0, 0)) = true := by simpa using g3
          refine Ws ?_
          exact Zag ⟨i + 1, by omega, by rw [keysTo, hks, keyAt, g1', g3']; simp⟩
      · have g2' := of_decide_eq_false g2
        refine Wqs ?_
        refine Ws ?_
        exact Zag ⟨i + 1, by omega, by rw [keysTo, hks, keyAt, g1', decide_eq_true (show i = 0 by omega)]; simp⟩
  · obtain rfl : i = ks.length := by omega
    refine Ws ?_
    refine Zlr2 (hr := hr2) ?_
    refine Ws ?_
    (refine Wl (α := { i : Nat // i ≤ kids.length ∧ kidsTo kids i = true }) (fun x => kids.length - x.1) (fun x => [(0, kv), (1, dv), (34, dv), (35, .int .i64 (kids.length : Int)), (36, .int .i64 (x.1 : Int))]) (fun x => [Ex (hp w)]) ⟨0, Nat.zero_le _, rfl⟩ ?_; rintro ⟨i, hi, hds⟩ mx hmx; (try dsimp only at hmx ⊢))
    refine Ws ?_
    (refine Wcd ?_ ?_ <;> intro h2)
    · have hil : i < kids.length := by omega
      refine Ws ?_
      refine Zir (hr := hr2) (j := i) ?_ (hj := by rfl) (hlt := by exact hil) (hl := by rw [NL_length]; omega)
      refine Ws ?_
      refine Zlr (hr := hr2) ?_ (hv := by exact (by rw [Nat.mul_one]; exact NL_get kids i hil))
      refine Ws ?_
      refine Zcv (node_between (kids.getD i 0) 2 511) ?_
      refine Ws ?_
      (refine ZcB 44 ?_ ?_ <;> intro g1)
      · have g1' : betw (kids.getD i 0) 2 511 = false := by simpa using g1
        refine Ws ?_
        exact Zfr (hq := by simp only [tupled]; (rw [inner_nod (kidAt_lt (by rw [kidAt, g1']; rfl) hil)]))
      · have g1' : betw (kids.getD i 0) 2 511 = true := by simpa using g1
        refine Ws ?_
        refine Zsl (lo := 0) (hi := i) ?_ (hr := by exact rdw_ex Wp hr2)
        refine Ws ?_
        have hsub : ∀ w', RdW w' dv kids.length (NL kids) → RdW w' (subv dv 1 0 i) (kids.take i).length (NL (kids.take i)) := fun w' h => by
          have := h.subv (size := 1) (lo := 0) (hi := i) (by omega) (by omega)
          rw [NL_sub, Nat.sub_zero] at this
          rw [List.length_take, show min i kids.length = i by omega]; exact this
        refine Zcv (slices_Contains (subv dv 1 0 i) (kids.take i) (kids.getD i 0)) ?_ (hpre := by exact fun w' hw' => hsub w' (rdw_ex Wp hr2 w' hw'))
        refine Ws ?_
        (refine Wcb ?_ ?_ <;> intro g2)
        · refine Ws ?_
          exact Zfr (hq := by simp only [tupled]; (rw [inner_nod (kidAt_lt (by rw [kidAt, g2]; simp) hil)]))
        · refine Ws ?_
          exact Zag ⟨i + 1, by omega, by rw [kidsTo, hds, kidAt, g1', g2]; simp⟩
    · obtain rfl : i = kids.length := by omega
      refine Ws ?_
      refine Zlr2 (hr := hr1) ?_
      refine Ws ?_
      refine Zlr2 (hr := hr2) ?_
      refine Ws ?_
      (refine ZcB 57 ?_ ?_ <;> intro g1)
      · have g1' := of_decide_eq_true g1
        refine Ws ?_
        refine Zlr2 (hr := hr2) ?_
        refine Ws ?_
        refine Zcv (node_between (kids.length : Int) 1 16) ?_
        refine Ws ?_
        exact Zfr (hq := by simp only [tupled]; (rw [innerB, hks, hds, decide_eq_true (show ks.length = kids.length by omega)]; rfl))
      · have g1' := of_decide_eq_false g1
        refine Ws ?_
        exact Zfr (hq := by simp only [tupled]; (rw [innerB, hks, hds, decide_eq_false (show ¬ ks.length = kids.length by omega)]; rfl))
end Go.Proofs.YtcglabmlhljkmaaGreat
end
section
/- node: Put and Get, of inner nodes. -/
namespace Go.Proofs.YtcglabmlhljkmaaGreat
open Go Go.RowKit Go.Gv
set_option linter.unusedVariables false
set_option linter.unusedSimpArgs false

def ndL (ev kv dv : Value) : List Value := [.bool false, ev, kv, dv]
def ndV (ev kv dv : Value) : Value := .agg (ndL ev kv dv).toArray
set_option maxHeartbeats 1000000 in
theorem node_big (v : Value) (l : List UInt8) (n size : Nat) (hs : size ≤ 8) (hl : l.length ≤ 1000000) : Gv.Spec Tryz.prog 175 #[v, .int .u64 (n : Int), .int .i64 (size : Int)] [own 5 1 v l.length (B8 l)]
    (fun r H' => H' = [own 5 1 r (l ++ bigB n size).length (B8 (l ++ bigB n size))]) := by
  refine Gv.Spec.of (fun w h0 hw => ?_)
  refine Calls.enter Tryz.func175 rfl rfl rfl hw ?_
  simp only [argSlots]
  refine Wap ?_
  refine Ws ?_
  (refine Wl (α := Σ' (k : Nat) (c : List UInt8) (u : Value), k ≤ size ∧ c ++ bigB n k = l ++ bigB n size) (fun x => x.1) (fun x => [(0, x.2.2.1), (1, .int .u64 (n : Int)), (7, .int .i64 ((x.1 : Int) - 1))]) (fun x => [own 5 1 x.2.2.1 x.2.1.length (B8 x.2.1), Ex h0]) ⟨size, l, v, Nat.le_refl _, rfl⟩ ?_; rintro ⟨k, c, u, hk, hc⟩ mx hmx; (try dsimp only at hmx ⊢))
  have hcl : c.length + k = l.length + size := by
    have := congrArg List.length hc
    simpa [bigB_length] using this
  refine Ws ?_
  (refine Wcd ?_ ?_ <;> intro h)
  · obtain ⟨j, rfl⟩ : ∃ j, k = j + 1 := ⟨k - 1, by omega⟩
    refine Ws ?_
    refine Zi 19 ((UInt8.ofNat (n / 2 ^ (8 * j))).toNat : Int) ?_ (hi := by rw [show ((j + 1 : Nat) : Int) - 1 = (j : Int) by omega]; exact byte_shr n j (by omega))
    (refine Zli (ys := [.int .u8 ((UInt8.ofNat (n / 2 ^ (8 * j))).toNat : Int)]) ?_; intro vl)
    refine Ws ?_
    refine Zap ?_ (hr := by exact rdw_own Wp) (hl := by rfl) (h1 := by intro y hy; simp at hy; subst hy; rfl)
    intro u'
    refine Ws ?_
    refine Zat (own 5 1 u' _ _) (own 5 1 u' (c ++ [UInt8.ofNat (n / 2 ^ (8 * j))]).length (B8 (c ++ [UInt8.ofNat (n / 2 ^ (8 * j))]))) ?_ (e := by rw [B8_append, List.length_append]; rfl)
    refine Zi 7 ((j : Int) - 1) ?_ (hi := by omega)
    exact Zag ⟨j, c ++ [UInt8.ofNat (n / 2 ^ (8 * j))], u', by omega, by rw [← hc, bigB]; simp⟩
  · obtain rfl : k = 0 := by omega
    have hce : c = l ++ bigB n size := by rw [← hc]; simp [bigB]
    refine Ws ?_
    refine Zat (own 5 1 u _ _) (own 5 1 u (l ++ bigB n size).length (B8 (l ++ bigB n size))) ?_ (e := by rw [hce])
    refine Zfn [own 5 1 u (l ++ bigB n size).length (B8 (l ++ bigB n size))] (hq := ?_)
    rfl


set_option maxHeartbeats 1000000 in
theorem node_Right_inner (ev kv dv : Value) (ks : List KEY) (kids : List Int) : SpecR Tryz.prog 55 #[ndV ev kv dv] (fun w => RdW w ev 0 [] ∧ RdW w kv ks.length (KL ks) ∧ RdW w dv kids.length (NL kids)) (fun r H' => r = .bool (innerB ks kids) ∧ H' = []) := by
  refine SpecR.of (fun w hrr => ?_)
  obtain ⟨hr0, hr1, hr2⟩ := hrr
  refine Calls.enter Tryz.func55 rfl rfl rfl (St.rebase w) ?_
  simp only [argSlots]
  refine Ws ?_
  (refine Wbx ?_; intro b1)
  refine Ws ?_
  refine Zlr2 (hr := hr0) ?_
  refine Ws ?_
  refine Zz 24 true ?_
  refine Ws ?_
  refine Zcv (node_inner kv dv ks kids) ?_ (hpre := by exact fun w' hw' => ⟨rdw_ex Wp hr1 w' hw', rdw_ex Wp hr2 w' hw'⟩)
  refine Ws ?_
  exact Zfr (hq := by simp only [tupled]; done)
set_option maxHeartbeats 1000000 in
theorem node_Size_inner (ev kv dv : Value) (kids : List Int) : SpecR Tryz.prog 114 #[ndV ev kv dv] (fun w => RdW w dv kids.length (NL kids)) (fun r H' => r = .int .i64 (kids.length : Int) ∧ H' = []) := by
  refine SpecR.of (fun w hr => ?_)
  refine Calls.enter Tryz.func114 rfl rfl rfl (St.rebase w) ?_
  simp only [argSlots]
  refine Ws ?_
  (refine Wbx ?_; intro b1)
  refine Ws ?_
  refine Zlr2 (hr := hr) ?_
  refine Ws ?_
  exact Zfr (hq := by simp only [tupled]; done)
theorem inner_spec {ks : List KEY} {kids : List Int} (h : innerB ks kids = true) : keysTo ks ks.length = true ∧ kidsTo kids kids.length = true ∧ ks.length = kids.length ∧ 1 ≤ kids.length ∧ kids.length ≤ 16 := by
  simp only [innerB, betw, Bool.and_eq_true, decide_eq_true_eq] at h
  refine ⟨h.1.1.1, h.1.1.2, h.1.2, ?_, ?_⟩ <;> omega
theorem keysTo_at {ks : List KEY} : ∀ {n : Nat}, keysTo ks n = true → ∀ i, i < n → keyAt ks i = true
  | n + 1, h, i, hi => by
    rw [keysTo, Bool.and_eq_true] at h
    by_cases e : i = n
    · subst e; exact h.2
    · exact keysTo_at h.1 i (by omega)
theorem kidsTo_at {ks : List Int} : ∀ {n : Nat}, kidsTo ks n = true → ∀ i, i < n → kidAt ks i = true
  | n + 1, h, i, hi => by
    rw [kidsTo, Bool.and_eq_true] at h
    by_cases e : i = n
    · subst e; exact h.2
    · exact kidsTo_at h.1 i (by omega)
theorem key_range {ks : List KEY} {i : Nat} (h : keyAt ks i = true) : 0 ≤ (ks.getD i (0, 0)).1 ∧ (ks.getD i (0, 0)).1 ≤ 4294967295 := by
  simp only [keyAt, keyOk, betw, Bool.and_eq_true, decide_eq_true_eq] at h
  exact h.1
theorem kid_range {ks : List Int} {i : Nat} (h : kidAt ks i = true) : 2 ≤ ks.getD i 0 ∧ ks.getD i 0 ≤ 511 := by
  simp only [kidAt, betw, Bool.and_eq_true, decide_eq_true_eq] at h
  exact h.1
set_option maxHeartbeats 1000000 in
theorem node_putKey (v : Value) (l : List UInt8) (k : KEY) (hk : 0 ≤ k.1 ∧ k.1 ≤ 4294967295) (hl : l.length ≤ 1000) : Gv.Spec Tryz.prog 176 #[v, keyV k] [own 5 1 v l.length (B8 l)]
    (fun r H' => H' = [own 5 1 r (l ++ keyB k).length (B8 (l ++ keyB k))]) := by
  refine Gv.Spec.of (fun w h0 hw => ?_)
  refine Calls.enter Tryz.func176 rfl rfl rfl hw ?_
  simp only [argSlots]
  refine Wap ?_
  refine Ws ?_
  (refine Wbx ?_; intro b3)
  refine Ws ?_
  refine Wm [blk b3 38 (keyL k)] ?_
  refine Wq [0, 1, 2, 3] ?_
  refine ZMv 8 (.int .u64 (k.1.toNat : Int)) ?_ (hv := by congr 1; omega)
  refine Wq [5, 6, 7] ?_
  refine ZMv 12 (.int .u64 (n64 k.2 : Int)) ?_ (hv := by congr 1; unfold n64; omega)
  refine ZA 4 ?_
  refine Zcs (node_big v l k.1.toNat 4 (by omega) (by omega)) ?_
  rintro v2 H2 rfl
  obtain ⟨c2, hc2⟩ : ∃ c2, c2 = l ++ bigB k.1.toNat 4 := ⟨_, rfl⟩
  have hl2 : c2.length = l.length + 4 := by rw [hc2, List.length_append, bigB_length]
  rw [← hc2]
  refine Wap ?_
  refine Zw ?_
  refine ZA 8 ?_
  refine Zcs (node_big v2 c2 (n64 k.2) 8 (by omega) (by omega)) ?_
  rintro v3 H3 rfl
  refine Wap ?_
  have e : c2 ++ bigB (n64 k.2) 8 = l ++ keyB k := by rw [hc2, keyB, List.append_assoc]
  rw [e]
  refine Zw ?_
  refine Wq [9] ?_
  refine ZE ?_
  refine Ws ?_
  refine Zfn [own 5 1 v3 (l ++ keyB k).length (B8 (l ++ keyB k))] (hq := ?_)
  rfl
set_option maxHeartbeats 1000000 in
theorem node_Put_no (ev kv dv : Value) (ks : List KEY) (kids : List Int) (h : innerB ks kids = false) : SpecR Tryz.prog 144 #[ndV ev kv dv] (fun w => RdW w ev 0 [] ∧ RdW w kv ks.length (KL ks) ∧ RdW w dv kids.length (NL kids)) (fun r H' => r = .tuple #[.slice none 0 0, .int .i64 1] ∧ H' = []) := by
  refine SpecR.of (fun w hrr => ?_)
  obtain ⟨hr0, hr1, hr2⟩ := hrr
  refine Calls.enter Tryz.func144 rfl rfl rfl (St.rebase w) ?_
  simp only [argSlots]
  refine Ws ?_
  (refine Wbx ?_; intro b1)
  refine Ws ?_
  refine Zla (cs := ndL ev kv dv) ?_ (hl := by rfl)
  refine Ws ?_
  refine Zcv (node_Right_inner ev kv dv ks kids) ?_ (hpre := by exact fun w' hw' => ⟨rdw_ex Wp hr0 w' hw', rdw_ex Wp hr1 w' hw', rdw_ex Wp hr2 w' hw'⟩)
  refine Ws ?_
  refine Zz 11 true ?_ (hi := by rw [h]; rfl)
  refine Ws ?_
  exact Zfr (hq := by simp only [tupled]; done)
set_option maxHeartbeats 4000000 in
theorem node_Put (ev kv dv : Value) (ks : List KEY) (kids : List Int) (h : innerB ks kids = true) : SpecR Tryz.prog 144 #[ndV ev kv dv] (fun w => RdW w ev 0 [] ∧ RdW w kv ks.length (KL ks) ∧ RdW w dv kids.length (NL kids)) (fun r H' => ∃ u, r = .tuple #[u, .int .i64 0] ∧ H' = [own 5 1 u (putI ks kids).length (B8 (putI ks kids))]) := by
  refine SpecR.of (fun w hrr => ?_)
  obtain ⟨hr0, hr1, hr2⟩ := hrr
  obtain ⟨i1, i2, i3, i4, i5⟩ := inner_spec h
  refine Calls.enter Tryz.func144 rfl rfl rfl (St.rebase w) ?_
  simp only [argSlots]
  refine Ws ?_
  (refine Wbx ?_; intro b1)
  refine Ws ?_
  refine Zla (cs := ndL ev kv dv) ?_ (hl := by rfl)
  refine Ws ?_
  refine Zcv (node_Right_inner ev kv dv ks kids) ?_ (hpre := by exact fun w' hw' => ⟨rdw_ex Wp hr0 w' hw', rdw_ex Wp hr1 w' hw', rdw_ex Wp hr2 w' hw'⟩)
  refine Ws ?_
  refine Zz 11 false ?_ (hi := by rw [h]; rfl)
  refine Ws ?_
  refine Zla (cs := ndL ev kv dv) ?_ (hl := by rfl)
  refine Ws ?_
  refine Zcv (node_Size_inner ev kv dv kids) ?_ (hpre := by exact rdw_ex Wp hr2)
  refine Ws ?_
  refine Zi 14 ((UInt8.ofNat kids.length).toNat : Int) ?_ (hi := by have : ((UInt8.ofNat kids.length).toNat : Int) = (kids.length : Int) % 256 := by { simp }; omega)
  (refine Zli (ys := [.int .u8 ((UInt8.ofNat kids.length).toNat : Int)]) ?_; intro v4)
  refine Ws ?_
  refine Zlr2 (hr := hr0) ?_
  refine Ws ?_
  refine Zat (own 5 1 v4 _ _) (own 5 1 v4 (UInt8.ofNat kids.length :: kidsB ks kids 0).length (B8 (UInt8.ofNat kids.length :: kidsB ks kids 0))) ?_
  (refine Wl (α := Unit) (fun _ => 0) (fun _ => [(1, .pointer (some ⟨b1, 0, none⟩)), (4, v4), (17, ev), (18, .int .i64 0), (19, .int .i64 0)]) (fun _ => [own 5 1 v4 (UInt8.ofNat kids.length :: kidsB ks kids 0).length (B8 (UInt8.ofNat kids.length :: kidsB ks kids 0)), blk b1 125 (ndL ev kv dv), Ex (hp w)]) () ?_; rintro ⟨⟩ mx hmx; (try dsimp only at hmx ⊢))
  refine Ws ?_
  (refine Wcd ?_ ?_ <;> intro hz)
  · omega
  refine Ws ?_
  refine Zlr2 (hr := hr2) ?_
  refine Ws ?_
  (refine Wl (α := Σ' (i : Nat) (u : Value), i ≤ kids.length) (fun x => kids.length - x.1) (fun x => [(1, .pointer (some ⟨b1, 0, none⟩)), (4, x.2.1), (55, dv), (56, .int .i64 (kids.length : Int)), (57, .int .i64 (x.1 : Int))]) (fun x => [own 5 1 x.2.1 (UInt8.ofNat kids.length :: kidsB ks kids x.1).length (B8 (UInt8.ofNat kids.length :: kidsB ks kids x.1)), blk b1 125 (ndL ev kv dv), Ex (hp w)]) ⟨0, v4, Nat.zero_le _⟩ ?_; rintro ⟨i, u, hi⟩ mx hmx; (try dsimp only at hmx ⊢))
  obtain ⟨c0, hc0⟩ : ∃ c0, c0 = UInt8.ofNat kids.length :: kidsB ks kids i := ⟨_, rfl⟩
  have hl0 : c0.length = 1 + i * 14 := by rw [hc0, List.length_cons, kidsB_length]; omega
  rw [← hc0]
  refine Ws ?_
  (refine Wcd ?_ ?_ <;> intro hc)
  · have hil : i < kids.length := by omega
    have hik : i < ks.length := by omega
    have hkr := key_range (keysTo_at i1 i hik)
    have hcr := kid_range (kidsTo_at i2 i hil)
    refine Ws ?_
    refine Zir (hr := hr2) (j := i) ?_ (hj := by rfl) (hlt := by exact hil) (hl := by rw [NL_length]; omega)
    refine Ws ?_
    refine Zlr (hr := hr2) ?_ (hv := by exact (by rw [Nat.mul_one]; exact NL_get kids i hil))
    refine Ws ?_
    refine Zir (hr := hr1) (j := i) ?_ (hj := by rfl) (hlt := by exact hik) (hl := by rw [KL_length]; omega)
    refine Ws ?_
    refine Zlh (hr := hr1) ?_ (hv := by exact KL_two ks i hik) (hl := by rfl)
    refine Ws ?_
    refine Zcs (node_putKey u c0 (ks.getD i (0, 0)) hkr (by omega)) ?_
    rintro v2 H2 rfl
    obtain ⟨c2, hc2⟩ : ∃ c2, c2 = c0 ++ keyB (ks.getD i (0, 0)) := ⟨_, rfl⟩
    have hl2 : c2.length = 13 + i * 14 := by rw [hc2, List.length_append, hl0, keyB_length]; omega
    rw [← hc2]
    refine Wap ?_
    refine Ws ?_
    refine Zi 70 ((kids.getD i 0).toNat : Int) ?_ (hi := by omega)
    refine Zcs (node_big v2 c2 (kids.getD i 0).toNat 2 (by omega) (by omega)) ?_
    rintro v3 H3 rfl
    have e : c2 ++ bigB (kids.getD i 0).toNat 2 = UInt8.ofNat kids.length :: kidsB ks kids (i + 1) := by rw [hc2, hc0, kidsB, List.cons_append, List.cons_append, List.append_assoc]
    rw [e]
    refine Wap ?_
    refine Ws ?_
    exact Zag ⟨i + 1, v3, by omega⟩
  · obtain rfl : i = kids.length := by omega
    refine Ws ?_
    refine Zat (own 5 1 u _ _) (own 5 1 u (putI ks kids).length (B8 (putI ks kids))) ?_ (e := by rw [hc0]; rfl)
    exact Zfn [own 5 1 u (putI ks kids).length (B8 (putI ks kids))] (hq := by exact ⟨u, rfl, rfl⟩)
end Go.Proofs.YtcglabmlhljkmaaGreat
end
section
/- node: Get, of inner nodes; has a node its bytes? -/
namespace Go.Proofs.YtcglabmlhljkmaaGreat
open Go Go.RowKit Go.Gv
set_option linter.unusedVariables false
set_option linter.unusedSimpArgs false

theorem sub_rd' {h : PH} {v : Value} {l : List UInt8} (hr : Rd h v l.length (B8 l)) (lo hi : Nat) (h1 : lo ≤ hi) (h2 : hi ≤ l.length) : Rd h (subv v 1 lo hi) ((l.drop lo).take (hi - lo)).length (B8 ((l.drop lo).take (hi - lo))) := by
  have := hr.subv (size := 1) h1 h2
  rw [B8_sub] at this
  rw [show ((l.drop lo).take (hi - lo)).length = hi - lo by rw [List.length_take, List.length_drop]; omega]
  exact this
theorem drop_rd {h : PH} {v : Value} {l : List UInt8} (hr : Rd h v l.length (B8 l)) (k : Nat) (hk : k ≤ l.length) : Rd h (subv v 1 k l.length) (l.drop k).length (B8 (l.drop k)) := by
  have := sub_rd' hr k l.length hk (Nat.le_refl _)
  rwa [List.take_of_length_le (by rw [List.length_drop]; omega)] at this
theorem get_or' (l : List UInt8) (i : Nat) (h : i < l.length) : (B8 l)[i]? = some (.int .u8 ((l.getD i 0).toNat : Int)) := by
  rw [B8_get l i h, List.getD_eq_getElem?_getD, List.getElem?_eq_getElem h]; rfl
theorem s64_wrap (n : Nat) (h : n < 18446744073709551616) : IntKind.i64.wrap (n : Int) = s64 n := by
  rw [IntKind.wrap_i64]; unfold s64; split <;> omega
set_option maxHeartbeats 1000000 in
theorem node_take (r : Nat) (u : Value) (l : List UInt8) (size : Nat) (h1 : PH) (hr : Rd h1 u l.length (B8 l)) (hs : size ≤ l.length) (h8 : size ≤ 8) : Gv.Spec Tryz.prog 147 #[.pointer (some ⟨r, 0, none⟩), .int .i64 (size : Int)] [blk r 237 [u], Ex h1]
    (fun x H' => x = .int .u64 (numB (l.take size) : Int) ∧ ∃ A c, Rd h1 (.slice A (l.drop size).length c) (l.drop size).length (B8 (l.drop size)) ∧ H' = [blk r 237 [.slice A (l.drop size).length c], Ex h1]) := by
  refine Gv.Spec.of (fun w h0 hw => ?_)
  refine Calls.enter Tryz.func147 rfl rfl rfl hw ?_
  simp only [argSlots]
  refine Wap ?_
  have hm : Rd h1 (subv u 1 0 size) (l.take size).length (B8 (l.take size)) := by
    have := sub_rd' hr 0 size (by omega) hs
    rwa [List.drop_zero, Nat.sub_zero] at this
  have hml : (l.take size).length = size := by rw [List.length_take]; omega
  have hd := drop_rd hr size hs
  refine Ws ?_
  refine Zsl (lo := 0) (hi := size) ?_ (hr := by exact rdw_ex Wp hr)
  refine Ws ?_
  refine Zlr2 (hr := hm) ?_
  refine Ws ?_
  (refine Wl (α := { k : Nat // k ≤ size }) (fun x => size - x.1) (fun x => [(0, .pointer (some ⟨r, 0, none⟩)), (1, .int .i64 (size : Int)), (5, .int .u64 (numB ((l.take size).take x.1) : Int)), (13, subv u 1 0 size), (14, .int .i64 ((l.take size).length : Int)), (15, .int .i64 (x.1 : Int))]) (fun x => [blk r 237 [u], Ex h1, Ex h0]) ⟨0, Nat.zero_le _⟩ ?_; rintro ⟨k, hk⟩ mx hmx; (try dsimp only at hmx ⊢))
  refine Ws ?_
  (refine Wcd ?_ ?_ <;> intro h)
  · have hk' : k < (l.take size).length := by omega
    have hb := numB_lt ((l.take size).take k)
    have hb2 : numB ((l.take size).take k) < 256 ^ 7 := Nat.lt_of_lt_of_le hb (Nat.pow_le_pow_right (by omega) (by rw [List.length_take]; omega))
    refine Ws ?_
    refine Zir (hr := hm) (j := k) ?_ (hj := by rfl) (hlt := by exact hk') (hl := by rw [B8_length]; omega)
    refine Ws ?_
    refine Zlr (hr := hm) ?_ (hv := by exact (by rw [Nat.mul_one]; exact B8_get _ k hk'))
    refine Ws ?_
    have hy : ((((l.take size)[k]'hk').toNat : Nat) : Int) % 18446744073709551616 = (((l.take size)[k]'hk').toNat : Int) := by have := ((l.take size)[k]'hk').toNat_lt; omega
    have hor := or8_64 (numB ((l.take size).take k)) ((l.take size)[k]'hk') (by omega)
    refine Zi 5 (numB ((l.take size).take (k + 1)) : Int) ?_ (hi := by rw [numB_take (l.take size) k hk', hy]; exact hor)
    exact Zag ⟨k + 1, by omega⟩
  · obtain rfl : k = size := by omega
    refine Zi 5 (numB (l.take k) : Int) ?_ (hi := by rw [List.take_of_length_le (l := l.take k) (Nat.le_of_eq hml)])
    refine Ws ?_
    refine Zsl (lo := k) (hi := l.length) ?_ (hr := by exact rdw_ex Wp hr)
    obtain ⟨A, c, he, _⟩ := id hd
    rw [he] at hd
    refine Zv 31 (.slice A (l.drop k).length c) ?_ (hv := by exact he)
    refine Ws ?_
    refine ZS ?_ (hi := by show 0 < 1; omega)
    refine Ws ?_
    exact Zfn [blk r 237 [.slice A (l.drop k).length c], Ex h1] (hq := by exact ⟨rfl, A, c, hd, rfl⟩)

set_option maxHeartbeats 1000000 in
theorem node_key (r : Nat) (u : Value) (l : List UInt8) (h1 : PH) (hr : Rd h1 u l.length (B8 l)) (hs : 12 ≤ l.length) : Gv.Spec Tryz.prog 146 #[.pointer (some ⟨r, 0, none⟩)] [blk r 237 [u], Ex h1]
    (fun x H' => x = keyV ((numB (l.take 4) : Int), s64 (numB ((l.drop 4).take 8))) ∧ ∃ A c, Rd h1 (.slice A (l.drop 12).length c) (l.drop 12).length (B8 (l.drop 12)) ∧ H' = [blk r 237 [.slice A (l.drop 12).length c], Ex h1]) := by
  refine Gv.Spec.of (fun w h0 hw => ?_)
  refine Calls.enter Tryz.func146 rfl rfl rfl hw ?_
  simp only [argSlots]
  refine Wap ?_
  have hb4 := numB_lt (l.take 4)
  rw [show (l.take 4).length = 4 by rw [List.length_take]; omega] at hb4
  have hb8 := numB_lt ((l.drop 4).take 8)
  rw [show ((l.drop 4).take 8).length = 8 by rw [List.length_take, List.length_drop]; omega] at hb8
  refine Ws ?_
  refine Zal fun b2 => ?_
  refine Ws ?_
  refine Zcs (node_take r u l 4 h1 hr (by omega) (by omega)) ?_
  rintro x1 H1 ⟨rfl, A1, c1, hr1, rfl⟩
  refine Wap ?_
  refine Ws ?_
  refine Zcs (node_take r (.slice A1 (l.drop 4).length c1) (l.drop 4) 8 h1 hr1 (by rw [List.length_drop]; omega) (by omega)) ?_
  rintro x2 H2 ⟨rfl, A2, c2, hr2, rfl⟩
  rw [List.drop_drop] at hr2 ⊢
  refine Wap ?_
  refine Ws ?_
  refine Zi 8 (s64 (numB ((l.drop 4).take 8))) ?_ (hi := by exact s64_wrap _ (by omega))
  refine Zi 5 (numB (l.take 4) : Int) ?_ (hi := by rfl)
  refine Zbu (ys := keyL ((numB (l.take 4) : Int), s64 (numB ((l.drop 4).take 8)))) ?_
  refine Ws ?_
  refine ZSa (ys := keyL ((numB (l.take 4) : Int), s64 (numB ((l.drop 4).take 8)))) ?_ (h1 := by exact keyL_one _)
  refine Ws ?_
  exact Zfn [blk r 237 [.slice A2 (l.drop (4 + 8)).length c2], Ex h1] (h := ResL.cons (Zra (show (keyL ((numB (l.take 4) : Int), s64 (numB ((l.drop 4).take 8)))).length = 2 from rfl)) (ResL.nil)) (hq := by exact ⟨rfl, A2, c2, hr2, rfl⟩)
end Go.Proofs.YtcglabmlhljkmaaGreat
end
section
/- node: Get, of inner nodes; has a node its bytes? -/
namespace Go.Proofs.YtcglabmlhljkmaaGreat
open Go Go.RowKit Go.Gv
set_option linter.unusedVariables false
set_option linter.unusedSimpArgs false

theorem ndL_len (a b c : Value) : (ndL a b c).length = 4 := rfl
theorem nd_one' (A B : Option Addr) (m c n d : Nat) : ∀ y ∈ ndL (.slice none 0 0) (.slice A m c) (.slice B n d), y.oneCell' = true := by
  intro y hy; simp [ndL] at hy; rcases hy with rfl | rfl | rfl | rfl <;> rfl
theorem nd_one (A : Option Addr) (c : Nat) (B : Option Addr) (d : Nat) : ∀ y ∈ ndL (.slice none 0 0) (.slice none 0 0) (.slice none 0 0), y.oneCell' = true := nd_one' none none 0 0 0 0
theorem keysG_succ (l : List UInt8) (i : Nat) : keysG l (i + 1) = keysG l i ++ [keyG l i] := by rw [keysG, List.range_succ, List.map_append]; rfl
theorem kidsG_succ (l : List UInt8) (i : Nat) : kidsG l (i + 1) = kidsG l i ++ [kidG l i] := by rw [kidsG, List.range_succ, List.map_append]; rfl
theorem KL_snoc (a : List KEY) (k : KEY) : KL (a ++ [k]) = KL a ++ keyL k := by simp [KL]
theorem NL_snoc (a : List Int) (k : Int) : NL (a ++ [k]) = NL a ++ [.int .i64 k] := by simp [NL]
theorem keysG_length (l : List UInt8) (i : Nat) : (keysG l i).length = i := by simp [keysG]
theorem kidsG_length (l : List UInt8) (i : Nat) : (kidsG l i).length = i := by simp [kidsG]
set_option maxHeartbeats 400000 in
theorem bytes_Equal2 (u v : Value) (a b : List UInt8) : SpecR Tryz.prog 135 #[u, v] (fun w => RdW w u a.length (B8 a) ∧ RdW w v b.length (B8 b)) (fun r H' => r = .bool (decide (a = b)) ∧ H' = []) := by
  refine SpecR.of (fun w hh => ?_)
  refine Calls.enter Tryz.func135 rfl rfl rfl (St.rebase w) ?_
  simp only [argSlots]
  refine Ws ?_
  refine Zbs (l := a) ?_ (he := by exact Tryz.underlying5) (hr := by exact rdw_ex Wp hh.1)
  refine Ws ?_
  refine Zbs (l := b) ?_ (he := by exact Tryz.underlying5) (hr := by exact rdw_ex Wp hh.2)
  refine Ws ?_
  exact Zfr (hq := by simp only [tupled]; (rw [bytes_eq']))
set_option maxHeartbeats 4000000 in
theorem node_Get_inner (v : Value) (l : List UInt8) : SpecR Tryz.prog 105 #[.bool false, v] (fun w => RdW w v l.length (B8 l)) (fun r H' => ∃ A c B d, r = .tuple #[ndV (.slice none 0 0) (.slice A (getI l).1.1.length c) (.slice B (getI l).1.2.length d), .int .i64 ((getI l).2 : Int)] ∧ H' = [own 38 2 (.slice A (getI l).1.1.length c) (getI l).1.1.length (KL (getI l).1.1), own 3 1 (.slice B (getI l).1.2.length d) (getI l).1.2.length (NL (getI l).1.2)]) := by
  refine SpecR.of (fun w hr => ?_)
  have hlen := hr.le
  obtain ⟨A0, c0, rfl, _⟩ := id hr
  refine Calls.enter Tryz.func105 rfl rfl rfl (St.rebase w) ?_
  simp only [argSlots]
  refine Ws ?_
  refine Zal fun b4 => ?_
  refine Ws ?_
  (refine ZcB 15 ?_ ?_ <;> intro h1)
  · have g1 := of_decide_eq_true h1
    have hg : getI l = (([], []), 3) := by rw [getI, if_pos (.inl (by omega))]
    refine Ws ?_
    refine ZSa (ys := ndL (.slice none 0 0) (.slice none 0 0) (.slice none 0 0)) ?_ (h1 := by exact nd_one none 0 none 0)
    refine Ws ?_
    (with_reducible apply Tri.ownNil 3 1)
    (with_reducible apply Tri.ownNil 38 2)
    rw [hg]
    exact Zfn [own 38 2 (.slice none 0 0) 0 [], own 3 1 (.slice none 0 0) 0 []] (h := ResL.cons (Zra (ndL_len (.slice none 0 0) (.slice none 0 0) (.slice none 0 0))) (ResL.cons (Res1.tmp rfl) (ResL.nil))) (hq := by exact ⟨none, 0, none, 0, rfl, rfl⟩)
  · have g1 := of_decide_eq_false h1
    have x0 := (l.getD 0 0).toNat_lt
    refine Ws ?_
    refine Zir (hr := hr) (j := 0) ?_ (hj := by rfl) (hlt := by omega) (hl := by rw [B8_length]; omega)
    refine Ws ?_
    refine Zlr (v := .int .u8 ((l.getD 0 0).toNat : Int)) (hr := hr) ?_ (hv := by exact get_or' l 0 (by omega))
    refine Ws ?_
    (refine Wcd ?_ ?_ <;> intro h2)
    · have hg : getI l = (([], []), 3) := by rw [getI, if_pos (.inr (by unfold cntG; omega))]
      refine Ws ?_
      refine ZSa (ys := ndL (.slice none 0 0) (.slice none 0 0) (.slice none 0 0)) ?_ (h1 := by exact nd_one none 0 none 0)
      refine Ws ?_
      (with_reducible apply Tri.ownNil 3 1)
      (with_reducible apply Tri.ownNil 38 2)
      rw [hg]
      ((first | with_reducible apply Tri.fin | with_reducible apply Tri.finN); (case hr => rfl); (case h => exact ResL.cons ((Res1.agg rfl (by (first | ((repeat (first | with_reducible exact Pull.head | with_reducible apply Pull.tail)); done) | (repeat (first | exact Pull.head | apply Pull.tail)))) (by rw [List.drop_zero]; exact List.take_of_length_le (Nat.le_of_eq (ndL_len (.slice none 0 0) (.slice none 0 0) (.slice none 0 0)))) (ndL_len (.slice none 0 0) (.slice none 0 0) (.slice none 0 0)))) (ResL.cons (Res1.tmp rfl) (ResL.nil))); (apply fin_R (Hn := [own 38 2 (.slice none 0 0) 0 [], own 3 1 (.slice none 0 0) 0 []])); (case p => exact (by (repeat (first | exact Pulls.nil | (apply Pulls.cons; (case a => (first | ((repeat (first | with_reducible exact Gv.Pull.head | with_reducible apply Gv.Pull.tail)); done) | (repeat (first | exact Gv.Pull.head | apply Gv.Pull.tail))))))))); exact ⟨none, 0, none, 0, rfl, rfl⟩)
    · obtain ⟨n, hn⟩ : ∃ n, n = cntG l := ⟨_, rfl⟩
      have hn' : n = (l.getD 0 0).toNat := hn
      have hll : l.length = 1 + n * 14 := by omega
      refine Ws ?_
      refine Zbu (ys := ndL (.slice none 0 0) (.slice none 0 0) (.slice none 0 0)) ?_
      refine Ws ?_
      refine Zal fun b7 => ?_
      refine Ws ?_
      refine ZSa (ys := ndL (.slice none 0 0) (.slice none 0 0) (.slice none 0 0)) ?_ (h1 := by exact nd_one none 0 none 0)
      refine Ws ?_
      refine Zsl (lo := 1) (hi := l.length) ?_ (hr := by exact rdw_ex Wp hr)
      have hd1 := drop_rd hr 1 (by omega)
      obtain ⟨A1, c1, he, _⟩ := id hd1
      rw [he] at hd1
      refine Zv 31 (.slice A1 (l.drop 1).length c1) ?_ (hv := by exact he)
      refine Ws ?_
      refine Zbu (ys := [.slice A1 (l.drop 1).length c1]) ?_
      refine Ws ?_
      (refine Wbx ?_; intro b8)
      refine Ws ?_
      refine Zir (hr := hr) (j := 0) ?_ (hj := by rfl) (hlt := by omega) (hl := by rw [B8_length]; omega)
      refine Ws ?_
      refine Zlr (v := .int .u8 ((l.getD 0 0).toNat : Int)) (hr := hr) ?_ (hv := by exact get_or' l 0 (by omega))
      refine Ws ?_
      (with_reducible apply Tri.ownNil 3 1)
      (with_reducible apply Tri.ownNil 38 2)
      refine Zat (own 38 2 _ 0 []) (own 38 2 (.slice none 0 0) 0 (KL (keysG l 0))) ?_
      refine Zat (own 3 1 _ 0 []) (own 3 1 (.slice none 0 0) 0 (NL (kidsG l 0))) ?_
      refine Zi 37 (n : Int) ?_ (hi := by rw [hn'])
      (refine Wl (α := Σ' (i : Nat) (Ak : Option Addr) (ck : Nat) (Ad : Option Addr) (cd : Nat) (A1 : Option Addr) (c1 : Nat), i ≤ n ∧ Rd (hp w) (.slice A1 (l.drop (1 + i * 14)).length c1) (l.drop (1 + i * 14)).length (B8 (l.drop (1 + i * 14)))) (fun x => n - x.1) (fun x => [(0, .bool false), (1, .slice A0 l.length c0), (4, .pointer (some ⟨b4, 0, none⟩)), (7, .pointer (some ⟨b7, 0, none⟩)), (8, .pointer (some ⟨b8, 0, none⟩)), (37, .int .i64 (n : Int)), (38, .int .i64 (x.1 : Int))]) (fun x => [blk b4 125 [.bool false, .slice none 0 0, .slice none 0 0, .slice none 0 0], blk b7 125 (ndL (.slice none 0 0) (.slice x.2.1 x.1 x.2.2.1) (.slice x.2.2.2.1 x.1 x.2.2.2.2.1)), blk b8 237 [.slice x.2.2.2.2.2.1 (l.drop (1 + x.1 * 14)).length x.2.2.2.2.2.2.1], own 38 2 (.slice x.2.1 x.1 x.2.2.1) x.1 (KL (keysG l x.1)), own 3 1 (.slice x.2.2.2.1 x.1 x.2.2.2.2.1) x.1 (NL (kidsG l x.1)), Ex (hp w)]) ⟨0, none, 0, none, 0, A1, c1, Nat.zero_le _, hd1⟩ ?_; rintro ⟨i, Ak, ck, Ad, cd, A1, c1, hi, hu⟩ mx hmx; (try dsimp only at hmx ⊢))
      refine Ws ?_
      ((first | with_reducible apply Tri.condD | with_reducible apply TriR.condD); (case hc => rfl); (all_goals intro hc))
      · have hin : i < n := by omega
        have hkb : numB ((l.drop (13 + i * 14)).take 2) < 65536 := by
          have := numB_lt ((l.drop (13 + i * 14)).take 2)
          rw [show ((l.drop (13 + i * 14)).take 2).length = 2 by rw [List.length_take, List.length_drop]; omega] at this
          exact this
        have hkk : ((numB ((l.drop (1 + i * 14)).take 4) : Int), s64 (numB ((l.drop (1 + i * 14 + 4)).take 8))) = keyG l i := by rw [keyG, show 5 + i * 14 = 1 + i * 14 + 4 by omega]
        refine Wo ?_
        (with_reducible refine Tri.seq ?_)
        (with_reducible refine Tri.block ?_)
        (with_reducible refine Tri.seq ?_)
        (with_reducible refine Tri.seq ?_)
        refine Wo ?_
        ((first | with_reducible apply Tri.seqMeet (α := Σ' (A3 : Option Addr) (c3 : Nat) (A2 : Option Addr) (c2 : Nat), Rd (hp w) (.slice A2 (l.drop (13 + i * 14)).length c2) (l.drop (13 + i * 14)).length (B8 (l.drop (13 + i * 14)))) (Lx := fun x => [(0, .bool false), (1, .slice A0 l.length c0), (4, .pointer (some ⟨b4, 0, none⟩)), (7, .pointer (some ⟨b7, 0, none⟩)), (8, .pointer (some ⟨b8, 0, none⟩)), (37, .int .i64 (n : Int)), (38, .int .i64 (i : Int))]) (Hx := fun x => [blk b4 125 [.bool false, .slice none 0 0, .slice none 0 0, .slice none 0 0], blk b7 125 (ndL (.slice none 0 0) (.slice x.1 (i + 1) x.2.1) (.slice Ad i cd)), blk b8 237 [.slice x.2.2.1 (l.drop (13 + i * 14)).length x.2.2.2.1], own 38 2 (.slice x.1 (i + 1) x.2.1) (i + 1) (KL (keysG l (i + 1))), own 3 1 (.slice Ad i cd) i (NL (kidsG l i)), Ex (hp w)]) | with_reducible apply TriR.seqMeet (α := Σ' (A3 : Option Addr) (c3 : Nat) (A2 : Option Addr) (c2 : Nat), Rd (hp w) (.slice A2 (l.drop (13 + i * 14)).length c2) (l.drop (13 + i * 14)).length (B8 (l.drop (13 + i * 14)))) (Lx := fun x => [(0, .bool false), (1, .slice A0 l.length c0), (4, .pointer (some ⟨b4, 0, none⟩)), (7, .pointer (some ⟨b7, 0, none⟩)), (8, .pointer (some ⟨b8, 0, none⟩)), (37, .int .i64 (n : Int)), (38, .int .i64 (i : Int))]) (Hx := fun x => [blk b4 125 [.bool false, .slice none 0 0, .slice none 0 0, .slice none 0 0], blk b7 125 (ndL (.slice none 0 0) (.slice x.1 (i + 1) x.2.1) (.slice Ad i cd)), blk b8 237 [.slice x.2.2.1 (l.drop (13 + i * 14)).length x.2.2.2.1], own 38 2 (.slice x.1 (i + 1) x.2.1) (i + 1) (KL (keysG l (i + 1))), own 3 1 (.slice Ad i cd) i (NL (kidsG l i)), Ex (hp w)])); rotate_left; (rintro ⟨A3, c3, A2, c2, hr2⟩; (try dsimp only)); rotate_left)
        · refine Wm [Ex (hp w)] ?_
          refine Wq [0, 2] ?_
          refine ZA2 1 3 ?_ ?_
          · refine Zl ?_
            refine Zw ?_
            refine ZA 3 ?_
            refine Zcs (node_key b8 (.slice A1 (l.drop (1 + i * 14)).length c1) (l.drop (1 + i * 14)) (hp w) hu (by rw [List.length_drop]; omega)) ?_
            rintro x1 H1 ⟨rfl, A2, c2, hr2, rfl⟩
            simp only [List.drop_drop] at hr2 ⊢
            rw [show 1 + i * 14 + 12 = 13 + i * 14 by omega] at hr2 ⊢
            rw [hkk]
            refine Wap ?_
            refine Zw ?_
            refine ZA 4 ?_
            (refine Zli (ys := keyL (keyG l i)) ?_; intro vl)
            refine Zw ?_
            refine ZA 5 ?_
            refine Zap ?_ (hr := by exact rdw_own Wp) (hl := by rfl) (h1 := by exact keyL_one _)
            intro kv2
            (refine Tri.shape (e := 38) (size := 2) (v := kv2) Wp ?_; rintro ⟨A3, c3, rfl⟩)
            refine Zw ?_
            refine Wq [6] ?_
            refine ZA 7 ?_
            refine ZS ?_ (hi := by show 2 < 4; omega)
            refine Zw ?_
            refine ZE ?_
            refine Wo ?_
            refine Zat (own 38 2 (.slice A3 _ c3) _ _) (own 38 2 (.slice A3 (i + 1) c3) (i + 1) (KL (keysG l (i + 1)))) ?_ (e := by rw [keysG_succ, KL_snoc])
            exact Zrc ⟨A3, c3, A2, c2, hr2⟩
          · refine Zcs (node_key b8 (.slice A1 (l.drop (1 + i * 14)).length c1) (l.drop (1 + i * 14)) (hp w) hu (by rw [List.length_drop]; omega)) ?_
            rintro x1 H1 ⟨rfl, A2, c2, hr2, rfl⟩
            simp only [List.drop_drop] at hr2 ⊢
            rw [show 1 + i * 14 + 12 = 13 + i * 14 by omega] at hr2 ⊢
            rw [hkk]
            refine Wap ?_
            refine Zw ?_
            refine ZA2 1 4 ?_ ?_
            · refine Zl ?_
              refine Zw ?_
              refine ZA 4 ?_
              (refine Zli (ys := keyL (keyG l i)) ?_; intro vl)
              refine Zw ?_
              refine ZA 5 ?_
              refine Zap ?_ (hr := by exact rdw_own Wp) (hl := by rfl) (h1 := by exact keyL_one _)
              intro kv2
              (refine Tri.shape (e := 38) (size := 2) (v := kv2) Wp ?_; rintro ⟨A3, c3, rfl⟩)
              refine Zw ?_
              refine Wq [6] ?_
              refine ZA 7 ?_
              refine ZS ?_ (hi := by show 2 < 4; omega)
              refine Zw ?_
              refine ZE ?_
              refine Wo ?_
              refine Zat (own 38 2 (.slice A3 _ c3) _ _) (own 38 2 (.slice A3 (i + 1) c3) (i + 1) (KL (keysG l (i + 1)))) ?_ (e := by rw [keysG_succ, KL_snoc])
              exact Zrc ⟨A3, c3, A2, c2, hr2⟩
            · (refine Zli (ys := keyL (keyG l i)) ?_; intro vl)
              refine Zw ?_
              refine ZA 1 ?_
              refine Zl ?_
              refine Zw ?_
              refine ZA 5 ?_
              refine Zap ?_ (hr := by exact rdw_own Wp) (hl := by rfl) (h1 := by exact keyL_one _)
              intro kv2
              (refine Tri.shape (e := 38) (size := 2) (v := kv2) Wp ?_; rintro ⟨A3, c3, rfl⟩)
              refine Zw ?_
              refine Wq [6] ?_
              refine ZA 7 ?_
              refine ZS ?_ (hi := by show 2 < 4; omega)
              refine Zw ?_
              refine ZE ?_
              refine Wo ?_
              refine Zat (own 38 2 (.slice A3 _ c3) _ _) (own 38 2 (.slice A3 (i + 1) c3) (i + 1) (KL (keysG l (i + 1)))) ?_ (e := by rw [keysG_succ, KL_snoc])
              exact Zrc ⟨A3, c3, A2, c2, hr2⟩
        · refine Ws ?_
          refine Wm [Ex (hp w)] ?_
          refine Wq [0, 2] ?_
          refine ZA2 1 3 ?_ ?_
          · refine Zl ?_
            refine Zw ?_
            refine ZA 3 ?_
            refine Zcs (node_take b8 (.slice A2 (l.drop (13 + i * 14)).length c2) (l.drop (13 + i * 14)) 2 (hp w) hr2 (by rw [List.length_drop]; omega) (by omega)) ?_
            rintro x1 H1 ⟨rfl, A4, c4, hr4, rfl⟩
            simp only [List.drop_drop] at hr4 ⊢
            rw [show 13 + i * 14 + 2 = 1 + (i + 1) * 14 by omega] at hr4 ⊢
            refine Wap ?_
            refine Zw ?_
            refine Wq [4] ?_
            refine ZMv 59 (.int .i64 (kidG l i)) ?_ (hv := by first | rfl | (rw [wrap_i64 (by omega)]; rfl))
            refine ZA 5 ?_
            (refine Zli (ys := [.int .i64 (kidG l i)]) ?_; intro vl)
            refine Zw ?_
            refine ZA 6 ?_
            refine Zap ?_ (hr := by exact rdw_own Wp) (hl := by rfl) (h1 := by intro y hy; simp at hy; subst hy; rfl)
            intro dv2
            (refine Tri.shape (e := 3) (size := 1) (v := dv2) Wp ?_; rintro ⟨A5, c5, rfl⟩)
            refine Zw ?_
            refine Wq [7] ?_
            refine ZA 8 ?_
            refine ZS ?_ (hi := by show 3 < 4; omega)
            refine Zw ?_
            refine ZE ?_
            refine Ws ?_
            refine Zat (own 3 1 (.slice A5 _ c5) _ _) (own 3 1 (.slice A5 (i + 1) c5) (i + 1) (NL (kidsG l (i + 1)))) ?_ (e := by rw [kidsG_succ, NL_snoc])
            exact Zag ⟨i + 1, A3, c3, A5, c5, A4, c4, by omega, hr4⟩
          · refine Zcs (node_take b8 (.slice A2 (l.drop (13 + i * 14)).length c2) (l.drop (13 + i * 14)) 2 (hp w) hr2 (by rw [List.length_drop]; omega) (by omega)) ?_
            rintro x1 H1 ⟨rfl, A4, c4, hr4, rfl⟩
            simp only [List.drop_drop] at hr4 ⊢
            rw [show 13 + i * 14 + 2 = 1 + (i + 1) * 14 by omega] at hr4 ⊢
            refine Wap ?_
            refine Zw ?_
            refine Wq [4] ?_
            refine ZMv 59 (.int .i64 (kidG l i)) ?_ (hv := by first | rfl | (rw [wrap_i64 (by omega)]; rfl))
            refine ZA2 1 5 ?_ ?_
            · refine Zl ?_
              refine Zw ?_
              refine ZA 5 ?_
              (refine Zli (ys := [.int .i64 (kidG l i)]) ?_; intro vl)
              refine Zw ?_
              refine ZA 6 ?_
              refine Zap ?_ (hr := by exact rdw_own Wp) (hl := by rfl) (h1 := by intro y hy; simp at hy; subst hy; rfl)
              intro dv2
              (refine Tri.shape (e := 3) (size := 1) (v := dv2) Wp ?_; rintro ⟨A5, c5, rfl⟩)
              refine Zw ?_
              refine Wq [7] ?_
              refine ZA 8 ?_
              refine ZS ?_ (hi := by show 3 < 4; omega)
              refine Zw ?_
              refine ZE ?_
              refine Ws ?_
              refine Zat (own 3 1 (.slice A5 _ c5) _ _) (own 3 1 (.slice A5 (i + 1) c5) (i + 1) (NL (kidsG l (i + 1)))) ?_ (e := by rw [kidsG_succ, NL_snoc])
              exact Zag ⟨i + 1, A3, c3, A5, c5, A4, c4, by omega, hr4⟩
            · (refine Zli (ys := [.int .i64 (kidG l i)]) ?_; intro vl)
              refine Zw ?_
              refine ZA 1 ?_
              refine Zl ?_
              refine Zw ?_
              refine ZA 6 ?_
              refine Zap ?_ (hr := by exact rdw_own Wp) (hl := by rfl) (h1 := by intro y hy; simp at hy; subst hy; rfl)
              intro dv2
              (refine Tri.shape (e := 3) (size := 1) (v := dv2) Wp ?_; rintro ⟨A5, c5, rfl⟩)
              refine Zw ?_
              refine Wq [7] ?_
              refine ZA 8 ?_
              refine ZS ?_ (hi := by show 3 < 4; omega)
              refine Zw ?_
              refine ZE ?_
              refine Ws ?_
              refine Zat (own 3 1 (.slice A5 _ c5) _ _) (own 3 1 (.slice A5 (i + 1) c5) (i + 1) (NL (kidsG l (i + 1)))) ?_ (e := by rw [kidsG_succ, NL_snoc])
              exact Zag ⟨i + 1, A3, c3, A5, c5, A4, c4, by omega, hr4⟩
      · obtain rfl : i = n := by omega
        have hnk : (keysG l i).length = i := keysG_length l i
        have hnd : (kidsG l i).length = i := kidsG_length l i
        refine Ws ?_
        refine Zla (cs := ndL (.slice none 0 0) (.slice Ak i ck) (.slice Ad i cd)) ?_ (hl := by rfl)
        refine Ws ?_
        have hpre : ∀ {H H1 H2 : List Atom} (p1 : Pull H (own 38 2 (.slice Ak i ck) i (KL (keysG l i))) H1) (p2 : Pull H (own 3 1 (.slice Ad i cd) i (NL (kidsG l i))) H2) (w' : World), St w w' H → RdW w' (.slice none 0 0) 0 [] ∧ RdW w' (.slice Ak i ck) (keysG l i).length (KL (keysG l i)) ∧ RdW w' (.slice Ad i cd) (kidsG l i).length (NL (kidsG l i)) := fun p1 p2 w' hw' => ⟨⟨none, 0, rfl, ⟨Nat.le_refl _, Nat.zero_le _⟩, fun j u hu => by simp at hu⟩, by rw [hnk]; exact rdw_own p1 w' hw', by rw [hnd]; exact rdw_own p2 w' hw'⟩
        by_cases hok : innerB (keysG l i) (kidsG l i) = true
        · refine Zcr (node_Put (.slice none 0 0) (.slice Ak i ck) (.slice Ad i cd) (keysG l i) (kidsG l i) hok) ?_ (hpre := by exact hpre Wp Wp)
          rintro r1 H1 ⟨u, rfl, rfl⟩
          refine Wap ?_
          refine Ws ?_
          refine Zz 71 false ?_
          refine Ws ?_
          refine Zcv (bytes_Equal2 u (.slice A0 l.length c0) (putI (keysG l i) (kidsG l i)) l) ?_ (hpre := by exact fun w' hw' => ⟨rdw_own Wp w' hw', rdw_ex Wp hr w' hw'⟩)
          refine Ws ?_
          by_cases hpe : putI (keysG l i) (kidsG l i) = l
          · have hg : getI l = ((keysG l i, kidsG l i), 0) := by rw [getI, if_neg (by rw [← hn]; omega), ← hn, if_pos ⟨hok, hpe⟩]
            refine Zz 76 false ?_ (hi := by simp [hpe])
            refine Ws ?_
            refine Zla (cs := ndL (.slice none 0 0) (.slice Ak i ck) (.slice Ad i cd)) ?_ (hl := by rfl)
            refine Ws ?_
            refine ZSa (ys := ndL (.slice none 0 0) (.slice Ak i ck) (.slice Ad i cd)) ?_ (h1 := by exact nd_one' Ak Ad i ck i cd)
            refine Ws ?_
            rw [hg]
            simp only [hnk, hnd]
            exact Zfn [own 38 2 (.slice Ak i ck) i (KL (keysG l i)), own 3 1 (.slice Ad i cd) i (NL (kidsG l i))] (h := ResL.cons (Zra (ndL_len (.slice none 0 0) (.slice Ak i ck) (.slice Ad i cd))) (ResL.cons (Res1.tmp rfl) (ResL.nil))) (hq := by exact ⟨Ak, ck, Ad, cd, rfl, rfl⟩)
          · have hg : getI l = (([], []), 3) := by rw [getI, if_neg (by rw [← hn]; omega), ← hn, if_neg (fun h => hpe h.2)]
            refine Zz 76 true ?_ (hi := by simp [hpe])
            refine Ws ?_
            refine ZSa (ys := ndL (.slice none 0 0) (.slice none 0 0) (.slice none 0 0)) ?_ (h1 := by exact nd_one none 0 none 0)
            refine Ws ?_
            (with_reducible apply Tri.ownNil 3 1)
            (with_reducible apply Tri.ownNil 38 2)
            rw [hg]
            exact Zfn [own 38 2 (.slice none 0 0) 0 [], own 3 1 (.slice none 0 0) 0 []] (h := ResL.cons (Zra (ndL_len (.slice none 0 0) (.slice none 0 0) (.slice none 0 0))) (ResL.cons (Res1.tmp rfl) (ResL.nil))) (hq := by exact ⟨none, 0, none, 0, rfl, rfl⟩)
        · have hg : getI l = (([], []), 3) := by rw [getI, if_neg (by rw [← hn]; omega), ← hn, if_neg (fun h => hok h.1)]
          refine Zcv (node_Put_no (.slice none 0 0) (.slice Ak i ck) (.slice Ad i cd) (keysG l i) (kidsG l i) (by simpa using hok)) ?_ (hpre := by exact hpre Wp Wp)
          refine Ws ?_
          refine Zz 71 true ?_
          refine Ws ?_
          refine ZSa (ys := ndL (.slice none 0 0) (.slice none 0 0) (.slice none 0 0)) ?_ (h1 := by exact nd_one none 0 none 0)
          refine Ws ?_
          (with_reducible apply Tri.ownNil 3 1)
          (with_reducible apply Tri.ownNil 38 2)
          rw [hg]
          exact Zfn [own 38 2 (.slice none 0 0) 0 [], own 3 1 (.slice none 0 0) 0 []] (h := ResL.cons (Zra (ndL_len (.slice none 0 0) (.slice none 0 0) (.slice none 0 0))) (ResL.cons (Res1.tmp rfl) (ResL.nil))) (hq := by exact ⟨none, 0, none, 0, rfl, rfl⟩)

end Go.Proofs.YtcglabmlhljkmaaGreat
end
section
/- node: entries, leaves; Right, Size, Least of any node. -/
namespace Go.Proofs.YtcglabmlhljkmaaGreat
open Go Go.RowKit Go.Gv
set_option linter.unusedVariables false
set_option linter.unusedSimpArgs false

def entL (e : ENT) : List Value := [.int .i64 e.key.1, .int .i64 e.key.2, .int .i64 e.fin, .int .i64 e.addr, .int .i64 e.len, .int .i64 e.count, .int .i64 e.codec, .int .u32 (e.crc : Int)]
def entV (e : ENT) : Value := .agg (entL e).toArray
def EL (E : List ENT) : List Value := E.flatMap entL
theorem entL_len (e : ENT) : (entL e).length = 8 := rfl
theorem EL_length : ∀ E, (EL E).length = E.length * 8
  | [] => rfl
  | x :: W => by
    have := EL_length W
    simp only [EL, List.flatMap_cons, List.length_append, List.length_cons, entL_len] at this ⊢; omega
theorem EL_drop : ∀ (F : List ENT) (k : Nat), (EL F).drop (k * 8) = EL (F.drop k)
  | F, 0 => rfl
  | [], k + 1 => by simp [EL]
  | x :: F, k + 1 => by
    rw [show (k + 1) * 8 = k * 8 + 8 by omega, ← List.drop_drop, List.drop_drop, Nat.add_comm, ← List.drop_drop]
    exact EL_drop F k
theorem EL_eight (F : List ENT) (k : Nat) (h : k < F.length) : ((EL F).drop (k * 8)).take 8 = entL (F.getD k ent0) := by
  rw [EL_drop, List.drop_eq_getElem_cons h, List.getD_eq_getElem?_getD, List.getElem?_eq_getElem h]; rfl
theorem EL_key (F : List ENT) (k : Nat) (h : k < F.length) : ((EL F).drop (k * 8)).take 2 = keyL (F.getD k ent0).key := by
  rw [EL_drop, List.drop_eq_getElem_cons h, List.getD_eq_getElem?_getD, List.getElem?_eq_getElem h]; rfl
theorem EL_snoc (a : List ENT) (k : ENT) : EL (a ++ [k]) = EL a ++ entL k := by simp [EL]
theorem entL_one (e : ENT) : ∀ y ∈ entL e, y.oneCell' = true := by
  intro y hy; simp [entL] at hy; rcases hy with rfl | rfl | rfl | rfl | rfl | rfl | rfl | rfl <;> rfl
def ndLL (leaf : Bool) (ev kv dv : Value) : List Value := [.bool leaf, ev, kv, dv]
def ndW (leaf : Bool) (ev kv dv : Value) : Value := .agg (ndLL leaf ev kv dv).toArray
theorem ndLL_len (l : Bool) (a b c : Value) : (ndLL l a b c).length = 4 := rfl

set_option maxHeartbeats 1000000 in
theorem node_PagesE (e : ENT) (hl : 0 ≤ e.len ∧ e.len ≤ 65535) : SpecR Tryz.prog 93 #[entV e] (fun _ => True) (fun r H' => r = .int .i64 (pagesE e.len) ∧ H' = []) := by
  refine SpecR.of (fun w _ => ?_)
  refine Calls.enter Tryz.func93 rfl rfl rfl (St.rebase w) ?_
  simp only [argSlots]
  refine Ws ?_
  (refine Wbx ?_; intro b1)
  refine Ws ?_
  refine Zi 2 (pagesE e.len) ?_ (hi := by unfold pagesE; omega)
  exact Zfr (hq := by simp only [tupled]; done)
set_option maxHeartbeats 4000000 in
theorem node_rightEntry (e : ENT) : SpecR Tryz.prog 139 #[entV e] (fun _ => True) (fun r H' => r = .bool (entOk e) ∧ H' = []) := by
  refine SpecR.of (fun w _ => ?_)
  refine Calls.enter Tryz.func139 rfl rfl rfl (St.rebase w) ?_
  simp only [argSlots]
  refine Ws ?_
  (refine Wbx ?_; intro b1)
  refine Ws ?_
  refine Zlg (ys := keyL e.key) ?_ (hl := by rfl)
  refine Ws ?_
  refine Zcv (node_rightKey e.key) ?_
  refine Ws ?_
  (refine ZcB 7 ?_ ?_ <;> intro h1)
  · have g1 : keyOk e.key = false := by simpa using h1
    refine Ws ?_
    exact Zfr (hq := by simp only [tupled]; (rw [entOk, g1]; rfl))
  · have g1 : keyOk e.key = true := by simpa using h1
    refine Ws ?_
    (refine ZcB 15 ?_ ?_ <;> intro h2)
    · have g2 := of_decide_eq_true h2
      refine Ws ?_
      exact Zfr (hq := by simp only [tupled]; (rw [entOk, g1, decide_eq_false (show ¬ e.key.2 ≤ e.fin by omega)]; rfl))
    · have g2 := of_decide_eq_false h2
      refine Ws ?_
      refine Zcv (node_between e.addr 2 511) ?_
      refine Ws ?_
      (refine ZcB 21 ?_ ?_ <;> intro h3)
      · have g3 : betw e.addr 2 511 = false := by simpa using h3
        refine Ws ?_
        exact Zfr (hq := by simp only [tupled]; (rw [entOk, g3, Bool.and_false]; rfl))
      · have g3 : betw e.addr 2 511 = true := by simpa using h3
        refine Ws ?_
        refine Zcv (node_between e.len 1 65535) ?_
        refine Ws ?_
        (refine Wcb ?_ ?_ <;> intro h4)
        · have g4 : betw e.len 1 65535 = false := by simpa using h4
          refine Ws ?_
          exact Zfr (hq := by simp only [tupled]; (rw [entOk, g4, Bool.and_false]; rfl))
        · have g4 : betw e.len 1 65535 = true := by simpa using h4
          have g3' : 2 ≤ e.addr ∧ e.addr ≤ 511 := by simpa [betw] using g3
          have g4' : 1 ≤ e.len ∧ e.len ≤ 65535 := by simpa [betw] using g4
          have hpg : 0 ≤ pagesE e.len ∧ pagesE e.len ≤ 1000 := by unfold pagesE; omega
          have eh : entOk e = (decide (e.addr + pagesE e.len ≤ 512) && betw e.count 1 200 && betw e.codec 0 15) := by rw [entOk, g1, g3, g4, decide_eq_true (show e.key.2 ≤ e.fin by omega)]; rfl
          refine Ws ?_
          ((with_reducible apply Tri.quiet); (case hB => kernel_rfl))
          refine Wqs ?_
          refine Zqo (h := fun _ x => by exact Zla (cs := entL e) x (hl := by rfl)) (k := ?_)
          refine Zqo (h := fun _ x => by exact Zcv (node_PagesE e ⟨by omega, by omega⟩) x) (k := ?_)
          refine Wqs ?_
          ((with_reducible apply TriQ.casesB 33); (case h => rfl); (all_goals intro h5))
          · refine Wqs ?_
            refine Zqo (h := fun _ x => by exact Zcv (node_between e.count 1 200) x) (k := ?_)
            refine Wqs ?_
            ((with_reducible apply TriQ.casesB 38); (case h => rfl); (all_goals intro h6))
            · refine Wqs ?_
              refine Zqo (h := fun _ x => by exact Zcv (node_between e.codec 0 15) x) (k := ?_)
              refine Wqs ?_
              refine Ws ?_
              exact Zfr (hq := by simp only [tupled]; (rw [eh, h5, h6]; rfl))
            · refine Wqs ?_
              refine Ws ?_
              exact Zfr (hq := by simp only [tupled]; (rw [eh, h5, h6]; rfl))
          · refine Wqs ?_
            refine Ws ?_
            exact Zfr (hq := by simp only [tupled]; (rw [eh, h5]; rfl))
set_option maxHeartbeats 4000000 in
theorem node_leaf (v : Value) (E : List ENT) : SpecR Tryz.prog 98 #[v] (fun w => RdW w v E.length (EL E)) (fun r H' => r = .bool (leafB E) ∧ H' = []) := by
  refine SpecR.of (fun w hr => ?_)
  have hlen := hr.le
  refine Calls.enter Tryz.func98 rfl rfl rfl (St.rebase w) ?_
  simp only [argSlots]
  refine Ws ?_
  refine Zlr2 (hr := hr) ?_
  refine Ws ?_
  (refine Wl (α := { i : Nat // i ≤ E.length ∧ entsTo E i = true }) (fun x => E.length - x.1) (fun x => [(0, v), (6, v), (7, .int .i64 (E.length : Int)), (8, .int .i64 (x.1 : Int))]) (fun x => [Ex (hp w)]) ⟨0, Nat.zero_le _, rfl⟩ ?_; rintro ⟨i, hi, hE⟩ mx hmx; (try dsimp only at hmx ⊢))
  refine Ws ?_
  (refine Wcd ?_ ?_ <;> intro h)
  · have hil : i < E.length := by omega
    obtain ⟨e, he⟩ : ∃ e, e = E.getD i ent0 := ⟨_, rfl⟩
    have h8 := EL_eight E i hil
    rw [← he] at h8
    refine Ws ?_
    refine Zir (hr := hr) (j := i) ?_ (hj := by rfl) (hlt := by exact hil) (hl := by rw [EL_length]; omega)
    refine Ws ?_
    refine Zlh (hr := hr) ?_ (hv := by exact h8) (hl := by rfl)
    refine Ws ?_
    refine Zal fun b4 => ?_
    refine Ws ?_
    refine ZSa (ys := entL e) ?_ (h1 := by exact entL_one _)
    refine Ws ?_
    refine Zla (cs := entL e) ?_ (hl := by rfl)
    refine Ws ?_
    refine Zcv (node_rightEntry e) ?_
    refine Ws ?_
    (refine Wcb ?_ ?_ <;> intro g1)
    · have g1' : entOk e = false := by simpa using g1
      refine Ws ?_
      exact Zfr (hq := by simp only [tupled]; (rw [leaf_no (entAt_lt (by rw [entAt, ← he, g1']; rfl) hil)]))
    · have g1' : entOk e = true := by simpa using g1
      refine Ws ?_
      (refine Wcd ?_ ?_ <;> intro g2)
      · have hnx : entsTo E (i + 1) = true := by rw [entsTo, hE, entAt, ← he, g1', decide_eq_true (show i = 0 by omega)]; simp
        refine Ws ?_
        exact Zag ⟨i + 1, by omega, hnx⟩
      · obtain ⟨p, hp0⟩ : ∃ e, e = E.getD (i - 1) ent0 := ⟨_, rfl⟩
        have h8p := EL_eight E (i - 1) (by omega)
        rw [← hp0] at h8p
        have eat : entAt E i = afterE p e := by rw [entAt, ← he, ← hp0, g1', decide_eq_false (show ¬ i = 0 by omega)]; simp
        refine Ws ?_
        refine Zir (hr := hr) (j := i - 1) ?_ (hj := by omega) (hlt := by omega) (hl := by rw [EL_length]; omega)
        refine Ws ?_
        refine Zlh (hr := hr) ?_ (hv := by exact h8p) (hl := by rfl)
        refine Ws ?_
        refine Zal fun b5 => ?_
        refine Ws ?_
        refine ZSa (ys := entL p) ?_ (h1 := by exact entL_one _)
        refine Ws ?_
        refine Zlg (ys := keyL p.key) ?_ (p := by exact (by exact Pull.head)) (hl := by rfl)
        refine Ws ?_
        refine Zlg (ys := keyL e.key) ?_ (hl := by rfl)
        refine Ws ?_
        refine Zcv (node_Less p.key e.key) ?_
        refine Ws ?_
        (refine ZcB 29 ?_ ?_ <;> intro g3)
        · have g3' : lessK p.key e.key = false := by simpa using g3
          refine Ws ?_
          exact Zfr (hq := by simp only [tupled]; (rw [leaf_no (entAt_lt (by rw [eat, afterE, g3']; rfl) hil)]))
        · have g3' : lessK p.key e.key = true := by simpa using g3
          refine Ws ?_
          (refine ZcB 37 ?_ ?_ <;> intro g4)
          · have g4' := of_decide_eq_true g4
            refine Ws ?_
            (refine Wcd ?_ ?_ <;> intro g5)
            · refine Ws ?_
              exact Zfr (hq := by simp only [tupled]; (rw [leaf_no (entAt_lt (by rw [eat, afterE, g3', decide_eq_true g4', decide_eq_true (show e.key.2 ≤ p.fin by omega)]; rfl) hil)]))
            · have hnx : entsTo E (i + 1) = true := by rw [entsTo, hE, eat, afterE, g3', decide_eq_true g4', decide_eq_false (show ¬ e.key.2 ≤ p.fin by omega)]; rfl
              refine Ws ?_
              exact Zag ⟨i + 1, by omega, hnx⟩
          · have g4' := of_decide_eq_false g4
            have hnx : entsTo E (i + 1) = true := by rw [entsTo, hE, eat, afterE, g3', decide_eq_false g4']; rfl
            refine Ws ?_
            exact Zag ⟨i + 1, by omega, hnx⟩
  · obtain rfl : i = E.length := by omega
    refine Ws ?_
    refine Zlr2 (hr := hr) ?_
    refine Ws ?_
    refine Zcv (node_between (E.length : Int) 1 7) ?_
    refine Ws ?_
    exact Zfr (hq := by simp only [tupled]; (rw [leafB, hE]; rfl))
def ndR (w : World) (ev kv dv : Value) (E : List ENT) (K : List KEY) (D : List Int) : Prop := RdW w ev E.length (EL E) ∧ RdW w kv K.length (KL K) ∧ RdW w dv D.length (NL D)
theorem ndR_ex {w0 : World} {H H1 : List Atom} {h0 : PH} {ev kv dv : Value} {E : List ENT} {K : List KEY} {D : List Int} (p : Pull H (Ex h0) H1) (h1 : Rd h0 ev E.length (EL E)) (h2 : Rd h0 kv K.length (KL K)) (h3 : Rd h0 dv D.length (NL D)) : ∀ w, St w0 w H → ndR w ev kv dv E K D := fun w hw => ⟨rdw_ex p h1 w hw, rdw_ex p h2 w hw, rdw_ex p h3 w hw⟩
set_option maxHeartbeats 4000000 in
theorem node_Right (leaf : Bool) (ev kv dv : Value) (E : List ENT) (K : List KEY) (D : List Int) : SpecR Tryz.prog 55 #[ndW leaf ev kv dv] (fun w => ndR w ev kv dv E K D) (fun r H' => r = .bool (rightN leaf E K D) ∧ H' = []) := by
  refine SpecR.of (fun w hrr => ?_)
  obtain ⟨hr0, hr1, hr2⟩ := hrr
  refine Calls.enter Tryz.func55 rfl rfl rfl (St.rebase w) ?_
  simp only [argSlots]
  refine Ws ?_
  (refine Wbx ?_; intro b1)
  refine Ws ?_
  (refine Wcb ?_ ?_ <;> intro hlf)
  · subst hlf
    refine Ws ?_
    refine Zlr2 (hr := hr1) ?_
    refine Ws ?_
    (refine ZcB 9 ?_ ?_ <;> intro g1)
    · refine Ws ?_
      refine Zlr2 (hr := hr2) ?_
      refine Ws ?_
      (refine ZcB 15 ?_ ?_ <;> intro g2)
      · refine Ws ?_
        refine Zcv (node_leaf ev E) ?_ (hpre := by exact rdw_ex Wp hr0)
        refine Ws ?_
        exact Zfr (hq := by simp only [tupled]; (rw [rightN, if_pos rfl, decide_eq_true (show K.length = 0 by have := of_decide_eq_true g1; omega), decide_eq_true (show D.length = 0 by have := of_decide_eq_true g2; omega)]; rfl))
      · refine Ws ?_
        exact Zfr (hq := by simp only [tupled]; (rw [rightN, if_pos rfl, decide_eq_false (show ¬ D.length = 0 by have := of_decide_eq_false g2; omega), Bool.false_and, Bool.and_false]))
    · refine Ws ?_
      exact Zfr (hq := by simp only [tupled]; (rw [rightN, if_pos rfl, decide_eq_false (show ¬ K.length = 0 by have := of_decide_eq_false g1; omega), Bool.false_and]))
  · subst hlf
    refine Ws ?_
    refine Zlr2 (hr := hr0) ?_
    refine Ws ?_
    (refine ZcB 24 ?_ ?_ <;> intro g1)
    · refine Ws ?_
      refine Zcv (node_inner kv dv K D) ?_ (hpre := by exact fun w' hw' => ⟨rdw_ex Wp hr1 w' hw', rdw_ex Wp hr2 w' hw'⟩)
      refine Ws ?_
      exact Zfr (hq := by simp only [tupled]; (rw [rightN, if_neg (by simp), decide_eq_true (show E.length = 0 by have := of_decide_eq_true g1; omega)]; rfl))
    · refine Ws ?_
      exact Zfr (hq := by simp only [tupled]; (rw [rightN, if_neg (by simp), decide_eq_false (show ¬ E.length = 0 by have := of_decide_eq_false g1; omega), Bool.false_and]))
def sizeN (leaf : Bool) (E : List ENT) (D : List Int) : Nat := if leaf then E.length else D.length
set_option maxHeartbeats 1000000 in
theorem node_Size (leaf : Bool) (ev kv dv : Value) (E : List ENT) (K : List KEY) (D : List Int) : SpecR Tryz.prog 114 #[ndW leaf ev kv dv] (fun w => ndR w ev kv dv E K D) (fun r H' => r = .int .i64 (sizeN leaf E D : Int) ∧ H' = []) := by
  refine SpecR.of (fun w hrr => ?_)
  obtain ⟨hr0, hr1, hr2⟩ := hrr
  refine Calls.enter Tryz.func114 rfl rfl rfl (St.rebase w) ?_
  simp only [argSlots]
  refine Ws ?_
  (refine Wbx ?_; intro b1)
  refine Ws ?_
  (refine Wcb ?_ ?_ <;> intro hlf)
  · subst hlf
    refine Ws ?_
    refine Zlr2 (hr := hr0) ?_
    refine Ws ?_
    exact Zfr (hq := by simp only [tupled]; rfl)
  · subst hlf
    refine Ws ?_
    refine Zlr2 (hr := hr2) ?_
    refine Ws ?_
    exact Zfr (hq := by simp only [tupled]; rfl)
def leastN (leaf : Bool) (E : List ENT) (K : List KEY) : KEY := if leaf then (E.getD 0 ent0).key else K.getD 0 (0, 0)
set_option maxHeartbeats 4000000 in
theorem node_Least (leaf : Bool) (ev kv dv : Value) (E : List ENT) (K : List KEY) (D : List Int) : SpecR Tryz.prog 143 #[ndW leaf ev kv dv] (fun w => ndR w ev kv dv E K D) (fun r H' => r = keyV (leastN leaf E K) ∧ H' = []) := by
  refine SpecR.of (fun w hrr => ?_)
  obtain ⟨hr0, hr1, hr2⟩ := hrr
  refine Calls.enter Tryz.func143 rfl rfl rfl (St.rebase w) ?_
  simp only [argSlots]
  refine Ws ?_
  (refine Wbx ?_; intro b1)
  refine Ws ?_
  refine Zal fun b2 => ?_
  refine Ws ?_
  (refine ZcB 6 ?_ ?_ <;> intro hlf)
  · subst hlf
    refine Ws ?_
    refine Zlr2 (hr := hr0) ?_
    refine Ws ?_
    (refine Wcd ?_ ?_ <;> intro g1)
    · have g1' : 0 < E.length := by omega
      refine Ws ?_
      refine Zir (hr := hr0) (j := 0) ?_ (hj := by rfl) (hlt := by exact g1') (hl := by rw [EL_length]; omega)
      refine Ws ?_
      refine Zlh (hr := hr0) (ys := keyL (E.getD 0 ent0).key) ?_ (hv := by exact EL_key E 0 g1') (hl := by rfl)
      refine Ws ?_
      refine ZSa (ys := keyL (E.getD 0 ent0).key) ?_ (h1 := by exact keyL_one _)
      refine Ws ?_
      exact Zfn [] (h := ResL.cons (Zra (show (keyL (E.getD 0 ent0).key).length = 2 from rfl)) (ResL.nil)) (hq := by exact ⟨rfl, rfl⟩)
    · have g1' : E = [] := List.eq_nil_of_length_eq_zero (by omega)
      subst g1'
      refine Ws ?_
      refine Zz 21 false ?_
      refine Ws ?_
      refine ZSa (ys := keyL (0, 0)) ?_ (h1 := by exact keyL_one _)
      refine Ws ?_
      exact Zfn [] (h := ResL.cons (Zra (show (keyL (0, 0)).length = 2 from rfl)) (ResL.nil)) (hq := by exact ⟨rfl, rfl⟩)
  · subst hlf
    refine Ws ?_
    refine Zz 21 true ?_
    refine Ws ?_
    refine Zlr2 (hr := hr1) ?_
    refine Ws ?_
    (refine Wcd ?_ ?_ <;> intro g1)
    · have g1' : 0 < K.length := by omega
      refine Ws ?_
      refine Zir (hr := hr1) (j := 0) ?_ (hj := by rfl) (hlt := by exact g1') (hl := by rw [KL_length]; omega)
      refine Ws ?_
      refine Zlh (hr := hr1) (ys := keyL (K.getD 0 (0, 0))) ?_ (hv := by exact KL_two K 0 g1') (hl := by rfl)
      refine Ws ?_
      refine ZSa (ys := keyL (K.getD 0 (0, 0))) ?_ (h1 := by exact keyL_one _)
      refine Ws ?_
      exact Zfn [] (h := ResL.cons (Zra (show (keyL (K.getD 0 (0, 0))).length = 2 from rfl)) (ResL.nil)) (hq := by exact ⟨rfl, rfl⟩)
    · have g1' : K = [] := List.eq_nil_of_length_eq_zero (by omega)
      subst g1'
      refine Ws ?_
      refine ZSa (ys := keyL (0, 0)) ?_ (h1 := by exact keyL_one _)
      refine Ws ?_
      exact Zfn [] (h := ResL.cons (Zra (show (keyL (0, 0)).length = 2 from rfl)) (ResL.nil)) (hq := by exact ⟨rfl, rfl⟩)
end Go.Proofs.YtcglabmlhljkmaaGreat
end
section
/- node: Put of any node; an entry that is read. -/
namespace Go.Proofs.YtcglabmlhljkmaaGreat
open Go Go.RowKit Go.Gv
set_option linter.unusedVariables false
set_option linter.unusedSimpArgs false

theorem node_Put_inner (ev kv dv : Value) (E : List ENT) (K : List KEY) (D : List Int) (h : rightN false E K D = true) : SpecR Tryz.prog 144 #[ndW false ev kv dv] (fun w => ndR w ev kv dv E K D) (fun r H' => ∃ u, r = .tuple #[u, .int .i64 0] ∧ H' = [own 5 1 u (putN false E K D).length (B8 (putN false E K D))]) := by
  have h' : E = [] ∧ innerB K D = true := by
    rw [rightN, if_neg (by simp)] at h
    simp only [Bool.and_eq_true, decide_eq_true_eq] at h
    exact ⟨List.eq_nil_of_length_eq_zero h.1, h.2⟩
  obtain ⟨rfl, hi⟩ := h'
  have := node_Put ev kv dv K D hi
  exact this
set_option maxHeartbeats 1000000 in
theorem node_PutN_no (leaf : Bool) (ev kv dv : Value) (E : List ENT) (K : List KEY) (D : List Int) (h : rightN leaf E K D = false) : SpecR Tryz.prog 144 #[ndW leaf ev kv dv] (fun w => ndR w ev kv dv E K D) (fun r H' => r = .tuple #[.slice none 0 0, .int .i64 1] ∧ H' = []) := by
  refine SpecR.of (fun w hrr => ?_)
  obtain ⟨hr0, hr1, hr2⟩ := hrr
  refine Calls.enter Tryz.func144 rfl rfl rfl (St.rebase w) ?_
  simp only [argSlots]
  refine Ws ?_
  (refine Wbx ?_; intro b1)
  refine Ws ?_
  refine Zla (cs := ndLL leaf ev kv dv) ?_ (hl := by rfl)
  refine Ws ?_
  refine Zcv (node_Right leaf ev kv dv E K D) ?_ (hpre := by exact ndR_ex Wp hr0 hr1 hr2)
  refine Ws ?_
  refine Zz 11 true ?_ (hi := by rw [h]; rfl)
  refine Ws ?_
  exact Zfr (hq := by simp only [tupled]; done)
set_option maxHeartbeats 4000000 in
theorem node_Put_leaf (ev kv dv : Value) (E : List ENT) (K : List KEY) (D : List Int) (h : rightN true E K D = true) (hR : ∀ e ∈ E, entR e) : SpecR Tryz.prog 144 #[ndW true ev kv dv] (fun w => ndR w ev kv dv E K D) (fun r H' => ∃ u, r = .tuple #[u, .int .i64 0] ∧ H' = [own 5 1 u (putN true E K D).length (B8 (putN true E K D))]) := by
  have h' : K = [] ∧ D = [] ∧ leafB E = true := by
    simp only [rightN, if_true, Bool.and_eq_true, decide_eq_true_eq] at h
    exact ⟨List.eq_nil_of_length_eq_zero h.1, List.eq_nil_of_length_eq_zero h.2.1, h.2.2⟩
  obtain ⟨rfl, rfl, hlf⟩ := h'
  obtain ⟨i1, i2, i3⟩ := leaf_spec hlf
  refine SpecR.of (fun w hrr => ?_)
  obtain ⟨hr0, hr1, hr2⟩ := hrr
  refine Calls.enter Tryz.func144 rfl rfl rfl (St.rebase w) ?_
  simp only [argSlots]
  refine Ws ?_
  (refine Wbx ?_; intro b1)
  refine Ws ?_
  refine Zla (cs := ndLL true ev kv dv) ?_ (hl := by rfl)
  refine Ws ?_
  refine Zcv (node_Right true ev kv dv E [] []) ?_ (hpre := by exact ndR_ex Wp hr0 hr1 hr2)
  refine Ws ?_
  refine Zz 11 false ?_ (hi := by rw [h]; rfl)
  refine Ws ?_
  refine Zla (cs := ndLL true ev kv dv) ?_ (hl := by rfl)
  refine Ws ?_
  refine Zcv (node_Size true ev kv dv E [] []) ?_ (hpre := by exact ndR_ex Wp hr0 hr1 hr2)
  refine Ws ?_
  refine Zi 14 ((UInt8.ofNat E.length).toNat : Int) ?_ (hi := by have : ((UInt8.ofNat E.length).toNat : Int) = (E.length : Int) % 256 := by { simp }; rw [this]; rfl)
  (refine Zli (ys := [.int .u8 ((UInt8.ofNat E.length).toNat : Int)]) ?_; intro v4)
  refine Ws ?_
  refine Zlr2 (hr := hr0) ?_
  refine Ws ?_
  refine Zat (own 5 1 v4 _ _) (own 5 1 v4 (UInt8.ofNat E.length :: entsB E 0).length (B8 (UInt8.ofNat E.length :: entsB E 0))) ?_
  (refine Wl (α := Σ' (i : Nat) (u : Value), i ≤ E.length) (fun x => E.length - x.1) (fun x => [(1, .pointer (some ⟨b1, 0, none⟩)), (4, x.2.1), (17, ev), (18, .int .i64 (E.length : Int)), (19, .int .i64 (x.1 : Int))]) (fun x => [own 5 1 x.2.1 (UInt8.ofNat E.length :: entsB E x.1).length (B8 (UInt8.ofNat E.length :: entsB E x.1)), blk b1 125 (ndLL true ev kv dv), Ex (hp w)]) ⟨0, v4, Nat.zero_le _⟩ ?_; rintro ⟨i, u, hi⟩ mx hmx; (try dsimp only at hmx ⊢))
  obtain ⟨c0, hc0⟩ : ∃ c0, c0 = UInt8.ofNat E.length :: entsB E i := ⟨_, rfl⟩
  have hl0 : c0.length = 1 + i * 30 := by rw [hc0, List.length_cons, entsB_length]; omega
  rw [← hc0]
  refine Ws ?_
  (refine Wcd ?_ ?_ <;> intro hc)
  · have hil : i < E.length := by omega
    obtain ⟨e, he⟩ : ∃ e, e = E.getD i ent0 := ⟨_, rfl⟩
    have h8 := EL_eight E i hil
    rw [← he] at h8
    have hat := entsTo_at i1 i hil
    rw [entAt, Bool.and_eq_true, ← he] at hat
    obtain ⟨k1, k2, k3, k4, k5, k6, k7⟩ := entOk_spec hat.1
    have hRe : entR e := by rw [he, List.getD_eq_getElem?_getD, List.getElem?_eq_getElem hil]; exact hR _ (List.getElem_mem hil)
    obtain ⟨_, _, hcr⟩ := hRe
    refine Ws ?_
    refine Zir (hr := hr0) (j := i) ?_ (hj := by rfl) (hlt := by exact hil) (hl := by rw [EL_length]; omega)
    refine Ws ?_
    refine Zlh (hr := hr0) ?_ (hv := by exact h8) (hl := by rfl)
    refine Ws ?_
    refine Zal fun b6 => ?_
    refine Ws ?_
    refine ZSa (ys := entL e) ?_ (h1 := by exact entL_one _)
    refine Ws ?_
    refine Wm [blk b6 40 (entL e)] ?_
    refine Wq [0, 1] ?_
    refine Zm 2 (h := fun _ _ x => by exact Zlg (ys := keyL e.key) x (hl := by rfl)) (k := ?_)
    refine Wq [4, 5, 6] ?_
    refine ZMv 29 (.int .u64 (n64 e.fin : Int)) ?_ (hv := by congr 1; unfold n64; omega)
    refine ZA 3 ?_
    refine Zcs (node_putKey u c0 e.key k1 (by omega)) ?_
    rintro v1 H1 rfl
    obtain ⟨c1, hc1⟩ : ∃ c, c = c0 ++ keyB e.key := ⟨_, rfl⟩
    have hl1 : c1.length = 13 + i * 30 := by rw [hc1, List.length_append, hl0, keyB_length]; omega
    rw [← hc1]
    refine Wap ?_
    refine Zw ?_
    refine ZA 7 ?_
    refine Zcs (node_big v1 c1 (n64 e.fin) 8 (by omega) (by omega)) ?_
    rintro v2 H2 rfl
    obtain ⟨c2, hc2⟩ : ∃ c, c = c1 ++ bigB (n64 e.fin) 8 := ⟨_, rfl⟩
    have hl2 : c2.length = 21 + i * 30 := by rw [hc2, List.length_append, hl1, bigB_length]; omega
    rw [← hc2]
    refine Wap ?_
    refine Zw ?_
    refine Wq [8] ?_
    refine ZE ?_
    refine Ws ?_
    refine Wm [blk b6 40 (entL e)] ?_
    refine Wq [0, 1, 2, 3] ?_
    refine ZMv 34 (.int .u64 (e.addr.toNat : Int)) ?_ (hv := by congr 1; omega)
    refine Wq [5, 6, 7] ?_
    refine ZMv 38 (.int .u64 (e.len.toNat : Int)) ?_ (hv := by congr 1; omega)
    refine ZA 4 ?_
    refine Zcs (node_big v2 c2 e.addr.toNat 2 (by omega) (by omega)) ?_
    rintro v3 H3 rfl
    obtain ⟨c3, hc3⟩ : ∃ c, c = c2 ++ bigB e.addr.toNat 2 := ⟨_, rfl⟩
    have hl3 : c3.length = 23 + i * 30 := by rw [hc3, List.length_append, hl2, bigB_length]; omega
    rw [← hc3]
    refine Wap ?_
    refine Zw ?_
    refine ZA 8 ?_
    refine Zcs (node_big v3 c3 e.len.toNat 2 (by omega) (by omega)) ?_
    rintro v4 H4 rfl
    obtain ⟨c4, hc4⟩ : ∃ c, c = c3 ++ bigB e.len.toNat 2 := ⟨_, rfl⟩
    have hl4 : c4.length = 25 + i * 30 := by rw [hc4, List.length_append, hl3, bigB_length]; omega
    rw [← hc4]
    refine Wap ?_
    refine Zw ?_
    refine Wq [9] ?_
    refine ZE ?_
    refine Ws ?_
    refine Wm [blk b6 40 (entL e)] ?_
    refine Wq [0, 1, 2, 3] ?_
    refine ZMv 43 (.int .u8 ((UInt8.ofNat e.count.toNat).toNat : Int)) ?_ (hv := by congr 1; rw [byte_of (by omega) (by omega)]; try omega)
    refine Wq [4, 5, 6] ?_
    refine ZMv 46 (.int .u8 ((UInt8.ofNat e.codec.toNat).toNat : Int)) ?_ (hv := by congr 1; rw [byte_of (by omega) (by omega)]; try omega)
    refine Wq [9, 10, 11] ?_
    refine ZMv 51 (.int .u64 (e.crc : Int)) ?_ (hv := by congr 1; try omega)
    refine ZA 7 ?_
    (refine Zli (ys := [.int .u8 ((UInt8.ofNat e.count.toNat).toNat : Int), .int .u8 ((UInt8.ofNat e.codec.toNat).toNat : Int)]) ?_; intro vl)
    refine Zw ?_
    refine ZA 8 ?_
    refine Zap ?_ (hr := by exact rdw_own (v := vl) Wp) (hl := by rfl) (h1 := by intro y hy; simp at hy; rcases hy with rfl | rfl <;> rfl)
    intro v5
    obtain ⟨c5, hc5⟩ : ∃ c, c = c4 ++ [UInt8.ofNat e.count.toNat, UInt8.ofNat e.codec.toNat] := ⟨_, rfl⟩
    have hl5 : c5.length = 27 + i * 30 := by rw [hc5, List.length_append, hl4]; simp; omega
    refine Zat (own 5 1 v5 _ _) (own 5 1 v5 c5.length (B8 c5)) ?_ (e := by rw [hc5, B8_append, List.length_append]; rfl)
    refine Zw ?_
    refine ZA 12 ?_
    refine Zcs (node_big v5 c5 e.crc 4 (by omega) (by omega)) ?_
    rintro v6 H6 rfl
    have e6 : c5 ++ bigB e.crc 4 = UInt8.ofNat E.length :: entsB E (i + 1) := by
      rw [hc5, hc4, hc3, hc2, hc1, hc0, entsB, ← he, entB]; simp [List.append_assoc]
    rw [e6]
    refine Wap ?_
    refine Zw ?_
    refine Wq [13] ?_
    refine ZE ?_
    refine Ws ?_
    exact Zag ⟨i + 1, v6, by omega⟩
  · obtain rfl : i = E.length := by omega
    refine Ws ?_
    refine Zlr2 (hr := hr2) ?_
    refine Ws ?_
    (refine Wl (α := Unit) (fun _ => 0) (fun _ => [(1, .pointer (some ⟨b1, 0, none⟩)), (4, u), (55, dv), (56, .int .i64 0), (57, .int .i64 0)]) (fun _ => [own 5 1 u c0.length (B8 c0), blk b1 125 (ndLL true ev kv dv), Ex (hp w)]) () ?_; rintro ⟨⟩ mx hmx; (try dsimp only at hmx ⊢))
    refine Ws ?_
    (refine Wcd ?_ ?_ <;> intro hz)
    · omega
    refine Ws ?_
    refine Zat (own 5 1 u _ _) (own 5 1 u (putN true E [] []).length (B8 (putN true E [] []))) ?_ (e := by rw [hc0]; rfl)
    exact Zfn [own 5 1 u (putN true E [] []).length (B8 (putN true E [] []))] (hq := by exact ⟨u, rfl, rfl⟩)
theorem node_PutN (leaf : Bool) (ev kv dv : Value) (E : List ENT) (K : List KEY) (D : List Int) (h : rightN leaf E K D = true) (hR : ∀ e ∈ E, entR e) : SpecR Tryz.prog 144 #[ndW leaf ev kv dv] (fun w => ndR w ev kv dv E K D) (fun r H' => ∃ u, r = .tuple #[u, .int .i64 0] ∧ H' = [own 5 1 u (putN leaf E K D).length (B8 (putN leaf E K D))]) := by
  cases leaf
  · exact node_Put_inner ev kv dv E K D h
  · exact node_Put_leaf ev kv dv E K D h hR

set_option maxHeartbeats 4000000 in
theorem node_entry (r : Nat) (u : Value) (l : List UInt8) (h1 : PH) (hr : Rd h1 u l.length (B8 l)) (hs : 30 ≤ l.length) : Gv.Spec Tryz.prog 145 #[.pointer (some ⟨r, 0, none⟩)] [blk r 237 [u], Ex h1]
    (fun x H' => x = entV (entP l) ∧ ∃ A c, Rd h1 (.slice A (l.drop 30).length c) (l.drop 30).length (B8 (l.drop 30)) ∧ H' = [blk r 237 [.slice A (l.drop 30).length c], Ex h1]) := by
  refine Gv.Spec.of (fun w h0 hw => ?_)
  refine Calls.enter Tryz.func145 rfl rfl rfl hw ?_
  simp only [argSlots]
  refine Wap ?_
  have hb : ∀ a m, a + m ≤ 30 → numB ((l.drop a).take m) < 256 ^ m := fun a m h => by
    have := numB_lt ((l.drop a).take m)
    rwa [show ((l.drop a).take m).length = m by rw [List.length_take, List.length_drop]; omega] at this
  have q1 := hb 12 8 (by omega)
  have q2 := hb 20 2 (by omega)
  have q3 := hb 22 2 (by omega)
  have q4 := hb 24 1 (by omega)
  have q5 := hb 25 1 (by omega)
  have q6 := hb 26 4 (by omega)
  refine Ws ?_
  refine Zal fun b2 => ?_
  refine Ws ?_
  refine Zcs (node_key r u l h1 hr (by omega)) ?_
  rintro x1 H1 ⟨rfl, A1, c1, hr1, rfl⟩
  refine Wap ?_
  refine Ws ?_
  refine Zcs (node_take r (.slice A1 (l.drop 12).length c1) (l.drop 12) 8 h1 hr1 (by rw [List.length_drop]; omega) (by omega)) ?_
  rintro x2 H2 ⟨rfl, A2, c2, hr2, rfl⟩
  simp only [List.drop_drop, Nat.reduceAdd] at hr2 ⊢
  refine Wap ?_
  refine Ws ?_
  refine Zi 8 (s64 (numB ((l.drop 12).take 8))) ?_ (hi := by exact s64_wrap _ (by omega))
  refine Zbu (ys := [.int .i64 (entP l).key.1, .int .i64 (entP l).key.2, .int .i64 (entP l).fin, .int .i64 0, .int .i64 0, .int .i64 0, .int .i64 0, .int .u32 0]) ?_
  refine Ws ?_
  refine Zal fun b3 => ?_
  refine Ws ?_
  refine ZSa (ys := [.int .i64 (entP l).key.1, .int .i64 (entP l).key.2, .int .i64 (entP l).fin, .int .i64 0, .int .i64 0, .int .i64 0, .int .i64 0, .int .u32 0]) ?_ (h1 := by intro y hy; simp at hy; rcases hy with rfl | rfl | rfl | rfl | rfl <;> rfl)
  refine Ws ?_
  refine Zcs (node_take r (.slice A2 (l.drop 20).length c2) (l.drop 20) 2 h1 hr2 (by rw [List.length_drop]; omega) (by omega)) ?_
  rintro x3 H3 ⟨rfl, A3, c3, hr3, rfl⟩
  simp only [List.drop_drop, Nat.reduceAdd] at hr3 ⊢
  refine Wap ?_
  refine Ws ?_
  refine Zcs (node_take r (.slice A3 (l.drop 22).length c3) (l.drop 22) 2 h1 hr3 (by rw [List.length_drop]; omega) (by omega)) ?_
  rintro x4 H4 ⟨rfl, A4, c4, hr4, rfl⟩
  simp only [List.drop_drop, Nat.reduceAdd] at hr4 ⊢
  refine Wap ?_
  refine Ws ?_
  refine ZS ?_ (hi := by show 3 < 8; omega)
  refine Ws ?_
  refine ZS ?_ (hi := by show 4 < 8; omega)
  refine Ws ?_
  refine Zcs (node_take r (.slice A4 (l.drop 24).length c4) (l.drop 24) 1 h1 hr4 (by rw [List.length_drop]; omega) (by omega)) ?_
  rintro x5 H5 ⟨rfl, A5, c5, hr5, rfl⟩
  simp only [List.drop_drop, Nat.reduceAdd] at hr5 ⊢
  refine Wap ?_
  refine Ws ?_
  refine Zcs (node_take r (.slice A5 (l.drop 25).length c5) (l.drop 25) 1 h1 hr5 (by rw [List.length_drop]; omega) (by omega)) ?_
  rintro x6 H6 ⟨rfl, A6, c6, hr6, rfl⟩
  simp only [List.drop_drop, Nat.reduceAdd] at hr6 ⊢
  refine Wap ?_
  refine Ws ?_
  refine ZS ?_ (hi := by show 5 < 8; omega)
  refine Ws ?_
  refine ZS ?_ (hi := by show 6 < 8; omega)
  refine Ws ?_
  refine Zcs (node_take r (.slice A6 (l.drop 26).length c6) (l.drop 26) 4 h1 hr6 (by rw [List.length_drop]; omega) (by omega)) ?_
  rintro x7 H7 ⟨rfl, A7, c7, hr7, rfl⟩
  simp only [List.drop_drop, Nat.reduceAdd] at hr7 ⊢
  refine Wap ?_
  refine Ws ?_
  refine ZS ?_ (hi := by show 7 < 8; omega)
  refine Ws ?_
  refine Zat (blk b3 _ _) (blk b3 40 (entL (entP l))) ?_
  refine Zla (cs := entL (entP l)) ?_ (hl := by rfl)
  refine Ws ?_
  refine ZSa (ys := entL (entP l)) ?_ (h1 := by exact entL_one _)
  refine Ws ?_
  exact Zfn [blk r 237 [.slice A7 (l.drop 30).length c7], Ex h1] (h := ResL.cons (Zra (entL_len (entP l))) (ResL.nil)) (hq := by exact ⟨rfl, A7, c7, hr7, rfl⟩)
end Go.Proofs.YtcglabmlhljkmaaGreat
end
section
/- node: Get of any node. -/
namespace Go.Proofs.YtcglabmlhljkmaaGreat
open Go Go.RowKit Go.Gv
set_option linter.unusedVariables false
set_option linter.unusedSimpArgs false

theorem ndLL_one (lf : Bool) (A B C : Option Addr) (m c n d k e : Nat) : ∀ y ∈ ndLL lf (.slice A m c) (.slice B n d) (.slice C k e), y.oneCell' = true := by
  intro y hy; simp [ndLL] at hy; rcases hy with rfl | rfl | rfl | rfl <;> rfl
theorem ndLL_nil (lf : Bool) (A : Option Addr) (m c : Nat) : ∀ y ∈ ndLL lf (.slice A m c) (.slice none 0 0) (.slice none 0 0), y.oneCell' = true := ndLL_one lf A none none m c 0 0 0 0
theorem rd_nil0 (h : PH) : Rd h (.slice none 0 0) 0 [] := ⟨none, 0, rfl, ⟨Nat.le_refl _, Nat.zero_le _⟩, fun j u hu => by simp at hu⟩
set_option maxHeartbeats 8000000 in
theorem node_Get_leaf (v : Value) (l : List UInt8) : SpecR Tryz.prog 105 #[.bool true, v] (fun w => RdW w v l.length (B8 l)) (fun r H' => ∃ A c, r = .tuple #[ndW (decide ((getL l).2 = 0)) (.slice A (getL l).1.length c) (.slice none 0 0) (.slice none 0 0), .int .i64 ((getL l).2 : Int)] ∧ H' = [own 40 8 (.slice A (getL l).1.length c) (getL l).1.length (EL (getL l).1)]) := by
  refine SpecR.of (fun w hr => ?_)
  have hlen := hr.le
  obtain ⟨A0, c0, rfl, _⟩ := id hr
  refine Calls.enter Tryz.func105 rfl rfl rfl (St.rebase w) ?_
  simp only [argSlots]
  refine Ws ?_
  refine Zal fun b4 => ?_
  refine Ws ?_
  (refine ZcB 15 ?_ ?_ <;> intro h1)
  · have g1 := of_decide_eq_true h1
    have hg : getL l = ([], 3) := by rw [getL, if_pos (.inl (by omega))]
    refine Ws ?_
    refine ZSa (ys := ndLL false (.slice none 0 0) (.slice none 0 0) (.slice none 0 0)) ?_ (h1 := by exact ndLL_nil false none 0 0)
    refine Ws ?_
    (with_reducible apply Tri.ownNil 40 8)
    rw [hg]
    exact Zfn [own 40 8 (.slice none 0 0) 0 []] (h := ResL.cons (Zra (ndLL_len false (.slice none 0 0) (.slice none 0 0) (.slice none 0 0))) (ResL.cons (Res1.tmp rfl) (ResL.nil))) (hq := by exact ⟨none, 0, rfl, rfl⟩)
  · have g1 := of_decide_eq_false h1
    have x0 := (l.getD 0 0).toNat_lt
    refine Ws ?_
    refine Zir (hr := hr) (j := 0) ?_ (hj := by rfl) (hlt := by omega) (hl := by rw [B8_length]; omega)
    refine Ws ?_
    refine Zlr (v := .int .u8 ((l.getD 0 0).toNat : Int)) (hr := hr) ?_ (hv := by exact get_or' l 0 (by omega))
    refine Ws ?_
    (refine Wcd ?_ ?_ <;> intro h2)
    · have hg : getL l = ([], 3) := by rw [getL, if_pos (.inr (by unfold cntG; omega))]
      refine Ws ?_
      refine ZSa (ys := ndLL false (.slice none 0 0) (.slice none 0 0) (.slice none 0 0)) ?_ (h1 := by exact ndLL_nil false none 0 0)
      refine Ws ?_
      (with_reducible apply Tri.ownNil 40 8)
      rw [hg]
      exact Zfn [own 40 8 (.slice none 0 0) 0 []] (h := ResL.cons (Zra (ndLL_len false (.slice none 0 0) (.slice none 0 0) (.slice none 0 0))) (ResL.cons (Res1.tmp rfl) (ResL.nil))) (hq := by exact ⟨none, 0, rfl, rfl⟩)
    · obtain ⟨n, hn⟩ : ∃ n, n = cntG l := ⟨_, rfl⟩
      have hn' : n = (l.getD 0 0).toNat := hn
      have hll : l.length = 1 + n * 30 := by omega
      refine Ws ?_
      refine Zbu (ys := ndLL true (.slice none 0 0) (.slice none 0 0) (.slice none 0 0)) ?_
      refine Ws ?_
      refine Zal fun b7 => ?_
      refine Ws ?_
      refine ZSa (ys := ndLL true (.slice none 0 0) (.slice none 0 0) (.slice none 0 0)) ?_ (h1 := by exact ndLL_nil true none 0 0)
      refine Ws ?_
      refine Zsl (lo := 1) (hi := l.length) ?_ (hr := by exact rdw_ex Wp hr)
      have hd1 := drop_rd hr 1 (by omega)
      obtain ⟨A1, c1, he, _⟩ := id hd1
      rw [he] at hd1
      refine Zv 31 (.slice A1 (l.drop 1).length c1) ?_ (hv := by exact he)
      refine Ws ?_
      refine Zbu (ys := [.slice A1 (l.drop 1).length c1]) ?_
      refine Ws ?_
      (refine Wbx ?_; intro b8)
      refine Ws ?_
      refine Zir (hr := hr) (j := 0) ?_ (hj := by rfl) (hlt := by omega) (hl := by rw [B8_length]; omega)
      refine Ws ?_
      refine Zlr (v := .int .u8 ((l.getD 0 0).toNat : Int)) (hr := hr) ?_ (hv := by exact get_or' l 0 (by omega))
      refine Ws ?_
      (with_reducible apply Tri.ownNil 40 8)
      refine Zat (own 40 8 _ 0 []) (own 40 8 (.slice none 0 0) 0 (EL (entsG l 0))) ?_
      refine Zi 37 (n : Int) ?_ (hi := by rw [hn'])
      (refine Wl (α := Σ' (i : Nat) (Ak : Option Addr) (ck : Nat) (A1 : Option Addr) (c1 : Nat), i ≤ n ∧ Rd (hp w) (.slice A1 (l.drop (1 + i * 30)).length c1) (l.drop (1 + i * 30)).length (B8 (l.drop (1 + i * 30)))) (fun x => n - x.1) (fun x => [(0, .bool true), (1, .slice A0 l.length c0), (4, .pointer (some ⟨b4, 0, none⟩)), (7, .pointer (some ⟨b7, 0, none⟩)), (8, .pointer (some ⟨b8, 0, none⟩)), (37, .int .i64 (n : Int)), (38, .int .i64 (x.1 : Int))]) (fun x => [blk b4 125 [.bool false, .slice none 0 0, .slice none 0 0, .slice none 0 0], blk b7 125 (ndLL true (.slice x.2.1 x.1 x.2.2.1) (.slice none 0 0) (.slice none 0 0)), blk b8 237 [.slice x.2.2.2.1 (l.drop (1 + x.1 * 30)).length x.2.2.2.2.1], own 40 8 (.slice x.2.1 x.1 x.2.2.1) x.1 (EL (entsG l x.1)), Ex (hp w)]) ⟨0, none, 0, A1, c1, Nat.zero_le _, hd1⟩ ?_; rintro ⟨i, Ak, ck, A1, c1, hi, hu⟩ mx hmx; (try dsimp only at hmx ⊢))
      refine Ws ?_
      (refine Wcd ?_ ?_ <;> intro hc)
      · have hin : i < n := by omega
        refine Ws ?_
        refine Wm [Ex (hp w)] ?_
        refine Wq [0, 2] ?_
        refine ZA2 1 3 ?_ ?_
        · refine Zl ?_
          refine Zw ?_
          refine ZA 3 ?_
          refine Zcs (node_entry b8 (.slice A1 (l.drop (1 + i * 30)).length c1) (l.drop (1 + i * 30)) (hp w) hu (by rw [List.length_drop]; omega)) ?_
          rintro x1 H1 ⟨rfl, A2, c2, hr2, rfl⟩
          simp only [List.drop_drop] at hr2 ⊢
          rw [show 1 + i * 30 + 30 = 1 + (i + 1) * 30 by omega] at hr2 ⊢
          refine Wap ?_
          refine Zw ?_
          refine ZA 4 ?_
          (refine Zli (ys := entL (entP (l.drop (1 + i * 30)))) ?_; intro vl)
          refine Zw ?_
          refine ZA 5 ?_
          refine Zap ?_ (hr := by exact rdw_own Wp) (hl := by rfl) (h1 := by exact entL_one _)
          intro kv2
          (refine Tri.shape (e := 40) (size := 8) (v := kv2) Wp ?_; rintro ⟨A3, c3, rfl⟩)
          refine Zw ?_
          refine Wq [6] ?_
          refine ZA 7 ?_
          refine ZS ?_ (hi := by show 1 < 4; omega)
          refine Zw ?_
          refine ZE ?_
          refine Ws ?_
          refine Zat (own 40 8 (.slice A3 _ c3) _ _) (own 40 8 (.slice A3 (i + 1) c3) (i + 1) (EL (entsG l (i + 1)))) ?_ (e := by rw [entsG_succ, EL_snoc])
          exact Zag ⟨i + 1, A3, c3, A2, c2, by omega, hr2⟩
        · refine Zcs (node_entry b8 (.slice A1 (l.drop (1 + i * 30)).length c1) (l.drop (1 + i * 30)) (hp w) hu (by rw [List.length_drop]; omega)) ?_
          rintro x1 H1 ⟨rfl, A2, c2, hr2, rfl⟩
          simp only [List.drop_drop] at hr2 ⊢
          rw [show 1 + i * 30 + 30 = 1 + (i + 1) * 30 by omega] at hr2 ⊢
          refine Wap ?_
          refine Zw ?_
          refine ZA2 1 4 ?_ ?_
          · refine Zl ?_
            refine Zw ?_
            refine ZA 4 ?_
            (refine Zli (ys := entL (entP (l.drop (1 + i * 30)))) ?_; intro vl)
            refine Zw ?_
            refine ZA 5 ?_
            refine Zap ?_ (hr := by exact rdw_own Wp) (hl := by rfl) (h1 := by exact entL_one _)
            intro kv2
            (refine Tri.shape (e := 40) (size := 8) (v := kv2) Wp ?_; rintro ⟨A3, c3, rfl⟩)
            refine Zw ?_
            refine Wq [6] ?_
            refine ZA 7 ?_
            refine ZS ?_ (hi := by show 1 < 4; omega)
            refine Zw ?_
            refine ZE ?_
            refine Ws ?_
            refine Zat (own 40 8 (.slice A3 _ c3) _ _) (own 40 8 (.slice A3 (i + 1) c3) (i + 1) (EL (entsG l (i + 1)))) ?_ (e := by rw [entsG_succ, EL_snoc])
            exact Zag ⟨i + 1, A3, c3, A2, c2, by omega, hr2⟩
          · (refine Zli (ys := entL (entP (l.drop (1 + i * 30)))) ?_; intro vl)
            refine Zw ?_
            refine ZA 1 ?_
            refine Zl ?_
            refine Zw ?_
            refine ZA 5 ?_
            refine Zap ?_ (hr := by exact rdw_own Wp) (hl := by rfl) (h1 := by exact entL_one _)
            intro kv2
            (refine Tri.shape (e := 40) (size := 8) (v := kv2) Wp ?_; rintro ⟨A3, c3, rfl⟩)
            refine Zw ?_
            refine Wq [6] ?_
            refine ZA 7 ?_
            refine ZS ?_ (hi := by show 1 < 4; omega)
            refine Zw ?_
            refine ZE ?_
            refine Ws ?_
            refine Zat (own 40 8 (.slice A3 _ c3) _ _) (own 40 8 (.slice A3 (i + 1) c3) (i + 1) (EL (entsG l (i + 1)))) ?_ (e := by rw [entsG_succ, EL_snoc])
            exact Zag ⟨i + 1, A3, c3, A2, c2, by omega, hr2⟩
      · obtain rfl : i = n := by omega
        have hnk : (entsG l i).length = i := entsG_length l i
        have hRe : ∀ e ∈ entsG l i, entR e := fun e he => by
          obtain ⟨k, hk, rfl⟩ := List.mem_map.1 he
          have hk' : k < i := List.mem_range.1 hk
          have hb : ∀ a m, a + m ≤ 30 → numB (((l.drop (1 + k * 30)).drop a).take m) < 256 ^ m := fun a m h => by
            have := numB_lt (((l.drop (1 + k * 30)).drop a).take m)
            rwa [show (((l.drop (1 + k * 30)).drop a).take m).length = m by rw [List.length_take, List.length_drop, List.length_drop]; omega] at this
          have q0 := hb 4 8 (by omega)
          have q1 := hb 12 8 (by omega)
          have q6 := hb 26 4 (by omega)
          refine ⟨?_, ?_, q6⟩
          · unfold i64R; simp only [entP]; unfold s64; split <;> omega
          · unfold i64R; simp only [entP]; unfold s64; split <;> omega
        refine Ws ?_
        refine Zla (cs := ndLL true (.slice Ak i ck) (.slice none 0 0) (.slice none 0 0)) ?_ (hl := by rfl)
        refine Ws ?_
        have hpre : ∀ {H H1 : List Atom} (p1 : Pull H (own 40 8 (.slice Ak i ck) i (EL (entsG l i))) H1) (w' : World), St w w' H → ndR w' (.slice Ak i ck) (.slice none 0 0) (.slice none 0 0) (entsG l i) [] [] := fun p1 w' hw' => ⟨by rw [hnk]; exact rdw_own p1 w' hw', rd_nil0 _, rd_nil0 _⟩
        by_cases hok : leafB (entsG l i) = true
        · have hrn : rightN true (entsG l i) [] [] = true := by rw [rightN, if_pos rfl, hok]; rfl
          refine Zcr (node_PutN true (.slice Ak i ck) (.slice none 0 0) (.slice none 0 0) (entsG l i) [] [] hrn hRe) ?_ (hpre := by exact hpre Wp)
          rintro r1 H1 ⟨u, rfl, rfl⟩
          rw [show putN true (entsG l i) [] [] = putL (entsG l i) from rfl]
          refine Wap ?_
          refine Ws ?_
          refine Zz 71 false ?_
          refine Ws ?_
          refine Zcv (bytes_Equal2 u (.slice A0 l.length c0) (putL (entsG l i)) l) ?_ (hpre := by exact fun w' hw' => ⟨rdw_own Wp w' hw', rdw_ex Wp hr w' hw'⟩)
          refine Ws ?_
          by_cases hpe : putL (entsG l i) = l
          · have hg : getL l = (entsG l i, 0) := by rw [getL, if_neg (by rw [← hn]; omega), ← hn, if_pos ⟨hok, hpe⟩]
            refine Zz 76 false ?_ (hi := by simp [hpe])
            refine Ws ?_
            refine Zla (cs := ndLL true (.slice Ak i ck) (.slice none 0 0) (.slice none 0 0)) ?_ (hl := by rfl)
            refine Ws ?_
            refine ZSa (ys := ndLL true (.slice Ak i ck) (.slice none 0 0) (.slice none 0 0)) ?_ (h1 := by exact ndLL_nil true Ak i ck)
            refine Ws ?_
            rw [hg]
            simp only [hnk]
            exact Zfn [own 40 8 (.slice Ak i ck) i (EL (entsG l i))] (h := ResL.cons (Zra (ndLL_len true (.slice Ak i ck) (.slice none 0 0) (.slice none 0 0))) (ResL.cons (Res1.tmp rfl) (ResL.nil))) (hq := by exact ⟨Ak, ck, rfl, rfl⟩)
          · have hg : getL l = ([], 3) := by rw [getL, if_neg (by rw [← hn]; omega), ← hn, if_neg (fun h => hpe h.2)]
            refine Zz 76 true ?_ (hi := by simp [hpe])
            refine Ws ?_
            refine ZSa (ys := ndLL false (.slice none 0 0) (.slice none 0 0) (.slice none 0 0)) ?_ (h1 := by exact ndLL_nil false none 0 0)
            refine Ws ?_
            (with_reducible apply Tri.ownNil 40 8)
            rw [hg]
            exact Zfn [own 40 8 (.slice none 0 0) 0 []] (h := ResL.cons (Zra (ndLL_len false (.slice none 0 0) (.slice none 0 0) (.slice none 0 0))) (ResL.cons (Res1.tmp rfl) (ResL.nil))) (hq := by exact ⟨none, 0, rfl, rfl⟩)
        · have hg : getL l = ([], 3) := by rw [getL, if_neg (by rw [← hn]; omega), ← hn, if_neg (fun h => hok h.1)]
          have hrn : rightN true (entsG l i) [] [] = false := by
            rw [Bool.eq_false_iff]; intro h; apply hok
            rw [rightN, if_pos rfl] at h; simpa using h
          refine Zcv (node_PutN_no true (.slice Ak i ck) (.slice none 0 0) (.slice none 0 0) (entsG l i) [] [] hrn) ?_ (hpre := by exact hpre Wp)
          refine Ws ?_
          refine Zz 71 true ?_
          refine Ws ?_
          refine ZSa (ys := ndLL false (.slice none 0 0) (.slice none 0 0) (.slice none 0 0)) ?_ (h1 := by exact ndLL_nil false none 0 0)
          refine Ws ?_
          (with_reducible apply Tri.ownNil 40 8)
          rw [hg]
          exact Zfn [own 40 8 (.slice none 0 0) 0 []] (h := ResL.cons (Zra (ndLL_len false (.slice none 0 0) (.slice none 0 0) (.slice none 0 0))) (ResL.cons (Res1.tmp rfl) (ResL.nil))) (hq := by exact ⟨none, 0, rfl, rfl⟩)
/-- what Get tells -/
structure GOT where
  leaf : Bool
  E : List ENT
  K : List KEY
  D : List Int
  e : Nat
def getN (isLeaf : Bool) (l : List UInt8) : GOT := if isLeaf then ⟨decide ((getL l).2 = 0), (getL l).1, [], [], (getL l).2⟩ else ⟨false, [], (getI l).1.1, (getI l).1.2, (getI l).2⟩
theorem node_GetN (isLeaf : Bool) (v : Value) (l : List UInt8) : SpecR Tryz.prog 105 #[.bool isLeaf, v] (fun w => RdW w v l.length (B8 l)) (fun r H' => ∃ A c B d C e, r = .tuple #[ndW (getN isLeaf l).leaf (.slice A (getN isLeaf l).E.length c) (.slice B (getN isLeaf l).K.length d) (.slice C (getN isLeaf l).D.length e), .int .i64 ((getN isLeaf l).e : Int)]
    ∧ H' = [own 40 8 (.slice A (getN isLeaf l).E.length c) (getN isLeaf l).E.length (EL (getN isLeaf l).E), own 38 2 (.slice B (getN isLeaf l).K.length d) (getN isLeaf l).K.length (KL (getN isLeaf l).K), own 3 1 (.slice C (getN isLeaf l).D.length e) (getN isLeaf l).D.length (NL (getN isLeaf l).D)]) := by
  cases isLeaf
  · refine SpecR.conv (node_Get_inner v l) (fun r H' h => ?_)
    obtain ⟨A, c, B, d, rfl, rfl⟩ := h
    exact ⟨_, ⟨none, 0, A, c, B, d, rfl, rfl⟩, fun w0 w H hw => St.pure1 (own_nil _ _) hw⟩
  · refine SpecR.conv (node_Get_leaf v l) (fun r H' h => ?_)
    obtain ⟨A, c, rfl, rfl⟩ := h
    exact ⟨_, ⟨A, c, none, 0, none, 0, rfl, rfl⟩, fun w0 w H hw => St.pure2 (own_nil _ _) (St.pure2 (own_nil _ _) hw)⟩
end Go.Proofs.YtcglabmlhljkmaaGreat
end
section
/- Maps of pages, as plain functions. -/
namespace Go.Gv

/-- pages and which are in use -/
structure BM where
  p : Int
  u : List Bool

def useAt (u : List Bool) (i : Nat) : Bool := u.getD i false
/-- what is asked of one page -/
def fitAt (m : BM) (i : Nat) : Bool := !(decide (i < 2) && !useAt m.u i || decide (m.p ≤ i) && useAt m.u i)
def rightM (m : BM) : Bool := decide (8 ≤ m.p) && decide (m.p ≤ 512) && (List.range 512).all (fitAt m)
def newM (p : Int) : BM := ⟨min (max p 8) 512, [true, true] ++ List.replicate 510 false⟩
def zeroM : BM := ⟨0, List.replicate 512 false⟩

/-- how many are free ahead of page k -/
def freeTo (m : BM) : Nat → Nat
  | 0 => 0
  | k + 1 => freeTo m k + if decide ((k : Int) < m.p) && !useAt m.u k then 1 else 0
def freeM (m : BM) : Nat := freeTo m 512

/-- is page i taken in one of both? -/
def bothAt (m o : BM) (i : Nat) : Bool := useAt m.u i || useAt o.u i
/-- how many are free side by side up to page k -/
def runTo (m o : BM) : Nat → Nat
  | 0 => 0
  | k + 1 => if bothAt m o k then 0 else runTo m o k + 1
def alikeM (m o : BM) : Bool := rightM m && rightM o && decide (m.p = o.p)
/-- n pages from one on, turned -/
def setFrom (u : List Bool) (b : Bool) (at_ : Nat) : Nat → List Bool
  | 0 => u
  | k + 1 => (setFrom u b at_ k).set (at_ + k) b
theorem setFrom_length (u : List Bool) (b : Bool) (a : Nat) : ∀ k, (setFrom u b a k).length = u.length
  | 0 => rfl
  | k + 1 => by simp [setFrom, setFrom_length u b a k]
/-- the first place with n side by side, from page k on; 'f' pages are left -/
def seek (m o : BM) (n : Int) : Nat → Nat → Option Nat
  | 0, _ => none
  | f + 1, k => if (runTo m o (k + 1) : Int) = n then some (k + 1 - n.toNat) else seek m o n f (k + 1)
def takeM (m o : BM) (n : Int) : BM × Int × Nat :=
  if !alikeM m o || decide (n < 1) then (zeroM, 0, 1)
  else match seek m o n m.p.toNat 0 with
    | some at_ => (⟨m.p, setFrom m.u true at_ n.toNat⟩, at_, 0)
    | none => (zeroM, 0, 5)
/-- are n pages from one on in use? -/
def allUsed (m : BM) (at_ n : Nat) : Bool := (List.range n).all fun i => useAt m.u (at_ + i)
def giveM (m : BM) (at_ n : Int) : BM × Nat :=
  if !rightM m || decide (n < 0) || decide (at_ < 2) || decide (m.p < at_) || decide (m.p - at_ < n) then (zeroM, 1)
  else if allUsed m at_.toNat n.toNat then (⟨m.p, setFrom m.u false at_.toNat n.toNat⟩, 0) else (zeroM, 10)
theorem fit_all {m : BM} (h : ∀ j, j < 512 → fitAt m j = true) : (List.range 512).all (fitAt m) = true := List.all_eq_true.2 (fun j hj => h j (List.mem_range.1 hj))
theorem fit_none {m : BM} {i : Nat} (hi : i < 512) (h : fitAt m i = false) : (List.range 512).all (fitAt m) = false := by
  cases hh : (List.range 512).all (fitAt m)
  · rfl
  · rw [List.all_eq_true.1 hh i (List.mem_range.2 hi)] at h; cases h
end Go.Gv
end
section
/- bitmap: what its functions answer. -/
namespace Go.Proofs.YtcglabmlhljkmaaGreat
open Go Go.RowKit Go.Gv
set_option linter.unusedVariables false

def bmL (m : BM) : List Value := .int .i64 m.p :: m.u.map .bool
def bmV (m : BM) : Value := .agg (bmL m).toArray
theorem bmL_length (m : BM) (h : m.u.length = 512) : (bmL m).length = 513 := by simp [bmL, h]
theorem bmL_one (m : BM) : ∀ y ∈ bmL m, y.oneCell' = true := by
  intro y hy; simp [bmL] at hy; rcases hy with rfl | ⟨_, rfl⟩ | ⟨_, rfl⟩ <;> rfl
theorem useAt_get (u : List Bool) (i : Nat) (h : i < u.length) : (u.map Value.bool)[i]? = some (.bool (useAt u i)) := by
  simp [useAt, h]
theorem bmL_get (m : BM) (i : Nat) (h : i < m.u.length) : (bmL m)[i + 1]? = some (.bool (useAt m.u i)) := by
  rw [bmL, List.getElem?_cons_succ]; exact useAt_get m.u i h
theorem bmL_set (m : BM) (i : Nat) (b : Bool) : (bmL m).set (i + 1) (.bool b) = bmL ⟨m.p, m.u.set i b⟩ := by simp [bmL, List.map_set]
theorem bmL_zero : bmL zeroM = [.int .i64 0] ++ List.replicate 512 (.bool false) := by rw [bmL, zeroM, List.map_replicate]; rfl
theorem bmL_drop (m : BM) (h : m.u.length = 512) : ((bmL m).drop 1).take 512 = m.u.map .bool := by
  rw [bmL, List.drop_succ_cons, List.drop_zero, List.take_of_length_le (by simp [h])]

set_option maxHeartbeats 400000 in
theorem bm_Right (m : BM) (hm : m.u.length = 512) : SpecR Tryz.prog 70 #[bmV m] (fun _ => True) (fun r H' => r = .bool (rightM m) ∧ H' = []) := by
  refine SpecR.of (fun w _ => ?_)
  refine Calls.enter Tryz.func70 rfl rfl rfl (St.rebase w) ?_
  simp only [argSlots]
  refine Ws ?_
  (refine Wbx ?_; intro bt)
  refine Ws ?_
  (refine ZcB 8 ?_ ?_ <;> intro h8)
  · refine Ws ?_
    refine Zfn [] (hq := ?_)
    exact ⟨by have h8' := of_decide_eq_true h8; simp only [tupled, rightM]; rw [decide_eq_false (show ¬ 8 ≤ m.p by omega)]; rfl, rfl⟩
  · have h8' := of_decide_eq_false h8
    refine Ws ?_
    (refine Wcd ?_ ?_ <;> intro h9)
    · refine Ws ?_
      refine Zfn [] (hq := ?_)
      exact ⟨by simp only [tupled, rightM]; rw [decide_eq_false (show ¬ m.p ≤ 512 by omega), Bool.and_false, Bool.false_and], rfl⟩
    · refine Ws ?_
      refine Zlg ?_ (hv := by exact bmL_drop m hm) (hl := by rw [List.length_map]; exact hm)
      refine Ws ?_
      (refine Wl (α := { i : Nat // i ≤ 512 ∧ ∀ j, j < i → fitAt m j = true }) (fun x => 512 - x.1) (fun x => [(1, .pointer (some ⟨bt, 0, none⟩)), (14, .agg (m.u.map Value.bool).toArray), (15, .int .i64 (x.1 : Int))]) (fun _ => [blk bt 60 (bmL m), Ex (hp w)]) ⟨0, Nat.zero_le _, fun j hj => absurd hj (Nat.not_lt_zero j)⟩ ?_; rintro ⟨i, hi, hf⟩ mx hmx; (try dsimp only at hmx ⊢))
      refine Ws ?_
      (refine Wcd ?_ ?_ <;> intro h)
      · have hi' : i < 512 := by omega
        refine Ws ?_
        refine Zoindex ?_ (hv := by exact useAt_get m.u i (by omega))
        refine Ws ?_
        have no : fitAt m i = false → rightM m = false := fun h0 => by rw [rightM, fit_none hi' h0, Bool.and_false]
        have yes : fitAt m i = true → ∀ j, j < i + 1 → fitAt m j = true := fun h0 j hj => by
          by_cases e : j = i
          · rw [e]; exact h0
          · exact hf j (by omega)
        (refine ZcB 21 ?_ ?_ <;> intro h2)
        · have h2' := of_decide_eq_true h2
          refine Ws ?_
          (refine ZcB 25 ?_ ?_ <;> intro h3)
          · refine Ws ?_
            refine Zfn [] (hq := ?_)
            exact ⟨by simp only [tupled]; rw [no (by unfold fitAt; rw [decide_eq_true (show i < 2 by omega), h3]; rfl)], rfl⟩
          · refine Ws ?_
            refine Zz 30 false ?_ (hi := by exact decide_eq_false (by omega))
            refine Ws ?_
            exact Zag ⟨i + 1, by omega, yes (by unfold fitAt; rw [h3, decide_eq_false (show ¬ m.p ≤ (i : Int) by omega), Bool.and_false, Bool.false_and]; simp)⟩
        · have h2' := of_decide_eq_false h2
          refine Ws ?_
          (refine ZcB 30 ?_ ?_ <;> intro h4)
          · refine Ws ?_
            (refine Wcb ?_ ?_ <;> intro h5)
            · refine Ws ?_
              refine Zfn [] (hq := ?_)
              exact ⟨by simp only [tupled]; rw [no (by unfold fitAt; rw [decide_eq_true (of_decide_eq_true h4), h5, Bool.and_true, Bool.or_true]; rfl)], rfl⟩
            · refine Ws ?_
              exact Zag ⟨i + 1, by omega, yes (by unfold fitAt; rw [decide_eq_false (show ¬ i < 2 by omega), h5, Bool.and_false]; simp)⟩
          · refine Ws ?_
            exact Zag ⟨i + 1, by omega, yes (by unfold fitAt; rw [decide_eq_false (show ¬ i < 2 by omega), decide_eq_false (of_decide_eq_false h4)]; simp)⟩
      · refine Ws ?_
        have e : i = 512 := by omega
        subst e
        refine Zfn [] (hq := ?_)
        exact ⟨by simp only [tupled, rightM]; rw [decide_eq_true (show 8 ≤ m.p by omega), decide_eq_true (show m.p ≤ 512 by omega), fit_all hf]; rfl, rfl⟩
end Go.Proofs.YtcglabmlhljkmaaGreat
end
section
/- Maps of pages: plain laws. -/
namespace Go.Gv

theorem freeTo_le (m : BM) : ∀ k, freeTo m k ≤ k
  | 0 => Nat.le_refl _
  | k + 1 => by
    have := freeTo_le m k
    rw [freeTo]; split <;> omega
theorem runTo_le (m o : BM) : ∀ k, runTo m o k ≤ k
  | 0 => Nat.le_refl _
  | k + 1 => by
    have := runTo_le m o k
    rw [runTo]; split <;> omega
theorem rightM_spec {m : BM} (h : rightM m = true) : 8 ≤ m.p ∧ m.p ≤ 512 ∧ ∀ j, j < 512 → fitAt m j = true := by
  simp only [rightM, Bool.and_eq_true, decide_eq_true_eq] at h
  exact ⟨h.1.1, h.1.2, fun j hj => List.all_eq_true.1 h.2 j (List.mem_range.2 hj)⟩
theorem alikeM_spec {m o : BM} (h : alikeM m o = true) : rightM m = true ∧ rightM o = true ∧ m.p = o.p := by
  simp only [alikeM, Bool.and_eq_true, decide_eq_true_eq] at h
  exact ⟨h.1.1, h.1.2, h.2⟩
theorem useAt_set (u : List Bool) (i j : Nat) (b : Bool) (hi : i < u.length) : useAt (u.set i b) j = if j = i then b else useAt u j := by
  unfold useAt
  rw [List.getD_eq_getElem?_getD, List.getElem?_set]
  by_cases h : i = j
  · subst h; simp [hi]
  · rw [if_neg h, if_neg (Ne.symm h), ← List.getD_eq_getElem?_getD]
theorem useAt_setFrom (u : List Bool) (b : Bool) (a j : Nat) : ∀ k, a + k ≤ u.length → useAt (setFrom u b a k) j = if a ≤ j ∧ j < a + k then b else useAt u j
  | 0, _ => by rw [setFrom, if_neg (by omega)]
  | k + 1, h => by
    rw [setFrom, useAt_set _ _ _ _ (by rw [setFrom_length]; omega), useAt_setFrom u b a j k (by omega)]
    by_cases h1 : j = a + k
    · rw [if_pos h1, if_pos (by omega)]
    · rw [if_neg h1]
      by_cases h2 : a ≤ j ∧ j < a + k
      · rw [if_pos h2, if_pos (by omega)]
      · rw [if_neg h2, if_neg (by omega)]
theorem newM_length (p : Int) : (newM p).u.length = 512 := by
  show ([true, true] ++ List.replicate 510 false).length = 512
  rw [List.length_append, List.length_replicate]; rfl
theorem zeroM_length : zeroM.u.length = 512 := List.length_replicate
theorem takeM_length (m o : BM) (n : Int) (h : m.u.length = 512) : (takeM m o n).1.u.length = 512 := by
  unfold takeM
  split
  · exact zeroM_length
  · split
    · simp only [setFrom_length]; exact h
    · exact zeroM_length
theorem giveM_length (m : BM) (a n : Int) (h : m.u.length = 512) : (giveM m a n).1.u.length = 512 := by
  unfold giveM
  split
  · exact zeroM_length
  · split
    · simp only [setFrom_length]; exact h
    · exact zeroM_length
end Go.Gv
end
section
/- bitmap: what its functions answer, further. -/
namespace Go.Proofs.YtcglabmlhljkmaaGreat
open Go Go.RowKit Go.Gv
set_option linter.unusedVariables false

set_option maxHeartbeats 400000 in
theorem bm_alike (m o : BM) (hm : m.u.length = 512) (ho : o.u.length = 512) : SpecR Tryz.prog 121 #[bmV m, bmV o] (fun _ => True) (fun r H' => r = .bool (alikeM m o) ∧ H' = []) := by
  refine SpecR.of (fun w _ => ?_)
  refine Calls.enter Tryz.func121 rfl rfl rfl (St.rebase w) ?_
  simp only [argSlots]
  refine Ws ?_
  (refine Wbx ?_; intro bm)
  refine Ws ?_
  (refine Wbx ?_; intro bo)
  refine Ws ?_
  refine Zla ?_ (hl := by exact bmL_length m hm)
  refine Ws ?_
  refine Zcv (bm_Right m hm) ?_
  refine Ws ?_
  (refine ZcB 7 ?_ ?_ <;> intro h1)
  · refine Ws ?_
    refine Zla ?_ (hl := by exact bmL_length o ho)
    refine Ws ?_
    refine Zcv (bm_Right o ho) ?_
    refine Ws ?_
    (refine ZcB 11 ?_ ?_ <;> intro h2)
    · refine Ws ?_
      exact Zfr (hq := by simp only [tupled]; (rw [alikeM, h1, h2]; rfl))
    · refine Ws ?_
      exact Zfr (hq := by simp only [tupled]; (rw [alikeM, h1, h2]; rfl))
  · refine Ws ?_
    exact Zfr (hq := by simp only [tupled]; (rw [alikeM, h1]; rfl))

theorem z513 : ([.int .i64 0] ++ List.replicate 512 (.bool false) : List Value).length = 513 := by rw [List.length_append, List.length_replicate]; rfl
theorem fill_first (place : Nat → Option (Nat × Nat)) (v : Int) (zs : List Value) (h : place 0 = some (0, 1)) : fillL place (.int .i64 0 :: zs) [(0, .int .i64 v)] = some (.int .i64 v :: zs) := by
  have e : Nat.ble 1 (zs.length + 1) = true := by rw [Nat.ble_eq]; omega
  simp [fillL, h, Value.cells, e]
theorem fill_map (p : Int) : fillL (fun i => [(0, 1), (1, 512)][i]?) ([.int .i64 0] ++ List.replicate 512 (.bool false)) [(0, .int .i64 p)] = some (bmL ⟨p, List.replicate 512 false⟩) := by
  rw [bmL, List.map_replicate, List.singleton_append]
  exact fill_first _ _ _ rfl

set_option maxHeartbeats 400000 in
theorem bm_New (p : Int) : SpecR Tryz.prog 21 #[.int .i64 p] (fun _ => True) (fun r H' => r = bmV (newM p) ∧ H' = []) := by
  refine SpecR.of (fun w _ => ?_)
  refine Calls.enter Tryz.func21 rfl rfl rfl (St.rebase w) ?_
  simp only [argSlots]
  refine Ws ?_
  refine Zal fun br => ?_
  refine Ws ?_
  refine Zbu ?_ (hf := by exact fill_map _)
  refine Ws ?_
  refine Zal fun bt => ?_
  refine Ws ?_
  refine ZSa ?_ (hl := by exact bmL_length _ List.length_replicate) (hc := by exact z513) (h1 := by exact bmL_one _)
  refine Ws ?_
  refine Zat (blk bt _ _) (blk bt 60 (bmL ⟨min (max p 8) 512, List.replicate 0 true ++ List.replicate (512 - 0) false⟩)) ?_ (e := by simp only [List.replicate_zero, List.nil_append, Nat.sub_zero])
  (refine Wl (α := { k : Nat // k ≤ 2 }) (fun x => 2 - x.1) (fun x => [(2, .pointer (some ⟨br, 0, none⟩)), (3, .pointer (some ⟨bt, 0, none⟩)), (9, .int .i64 (x.1 : Int))]) (fun x => [blk br 60 ([.int .i64 0] ++ List.replicate 512 (.bool false)), blk bt 60 (bmL ⟨min (max p 8) 512, List.replicate x.1 true ++ List.replicate (512 - x.1) false⟩), Ex (hp w)]) ⟨0, Nat.zero_le _⟩ ?_; rintro ⟨k, hk⟩ mx hmx; (try dsimp only at hmx ⊢))
  refine Ws ?_
  (refine Wcd ?_ ?_ <;> intro h)
  · have hk' : k < 2 := by omega
    have hlen : (List.replicate k true ++ List.replicate (512 - k) false).length = 512 := by simp; omega
    refine Ws ?_
    refine ZS ?_ (hi := by rw [bmL_length _ hlen]; omega)
    have es : ((List.replicate k true ++ List.replicate (512 - k) false).set k true) = List.replicate (k + 1) true ++ List.replicate (512 - (k + 1)) false := by
      have : k = 0 ∨ k = 1 := by omega
      rcases this with rfl | rfl <;> rfl
    refine Zat (blk bt _ _) (blk bt 60 (bmL ⟨min (max p 8) 512, List.replicate (k + 1) true ++ List.replicate (512 - (k + 1)) false⟩)) ?_ (e := by rw [Nat.zero_add, Nat.mul_one, Nat.add_comm 1 k, bmL_set]; simp only [es])
    refine Ws ?_
    exact Zag ⟨k + 1, by omega⟩
  · have e : k = 2 := by omega
    subst e
    refine Ws ?_
    refine Zat (blk bt _ _) (blk bt 60 (bmL (newM p))) ?_
    refine Zla ?_ (hl := by exact bmL_length _ (newM_length p))
    refine Ws ?_
    refine ZSa ?_ (hl := by exact bmL_length _ (newM_length p)) (hc := by exact z513) (h1 := by exact bmL_one _)
    refine Ws ?_
    exact Zfr (h := ResL.cons (Zra (bmL_length _ (newM_length p))) (ResL.nil)) (hq := by simp only [tupled]; rfl)

set_option maxHeartbeats 400000 in
theorem bm_Free (m : BM) (hm : m.u.length = 512) : SpecR Tryz.prog 54 #[bmV m] (fun _ => True) (fun r H' => r = .int .i64 (freeM m : Int) ∧ H' = []) := by
  refine SpecR.of (fun w _ => ?_)
  refine Calls.enter Tryz.func54 rfl rfl rfl (St.rebase w) ?_
  simp only [argSlots]
  refine Ws ?_
  (refine Wbx ?_; intro bt)
  refine Ws ?_
  refine Zlg ?_ (hv := by exact bmL_drop m hm) (hl := by rw [List.length_map]; exact hm)
  refine Ws ?_
  (refine Wl (α := { i : Nat // i ≤ 512 }) (fun x => 512 - x.1) (fun x => [(1, .pointer (some ⟨bt, 0, none⟩)), (7, .agg (m.u.map Value.bool).toArray), (8, .int .i64 (x.1 : Int)), (3, .int .i64 (freeTo m x.1 : Int))]) (fun _ => [blk bt 60 (bmL m), Ex (hp w)]) ⟨0, Nat.zero_le _⟩ ?_; rintro ⟨i, hi⟩ mx hmx; (try dsimp only at hmx ⊢))
  refine Ws ?_
  (refine Wcd ?_ ?_ <;> intro h)
  · have hi' : i < 512 := by omega
    have hfl := freeTo_le m i
    refine Ws ?_
    refine Zoindex ?_ (hv := by exact useAt_get m.u i (by omega))
    refine Ws ?_
    (refine ZcB 16 ?_ ?_ <;> intro h2)
    · refine Ws ?_
      (refine Wcb ?_ ?_ <;> intro h3)
      · refine Ws ?_
        refine Zi 3 (freeTo m (i + 1) : Int) ?_ (hi := by rw [freeTo, h2, h3]; rfl)
        exact Zag ⟨i + 1, by omega⟩
      · refine Ws ?_
        refine Zi 3 (freeTo m (i + 1) : Int) ?_ (hi := by rw [freeTo, h2, h3]; rfl)
        exact Zag ⟨i + 1, by omega⟩
    · refine Ws ?_
      refine Zi 3 (freeTo m (i + 1) : Int) ?_ (hi := by rw [freeTo, h2]; rfl)
      exact Zag ⟨i + 1, by omega⟩
  · have e : i = 512 := by omega
    subst e
    refine Ws ?_
    exact Zfr (hq := by simp only [tupled]; rfl)
end Go.Proofs.YtcglabmlhljkmaaGreat
end
section
/- bitmap.Take. -/
namespace Go.Proofs.YtcglabmlhljkmaaGreat
open Go Go.RowKit Go.Gv
set_option linter.unusedVariables false

theorem z_one : ∀ y ∈ ([.int .i64 0] ++ List.replicate 512 (.bool false) : List Value), y.oneCell' = true := by
  rw [← bmL_zero]; exact bmL_one zeroM
theorem off_get (m : BM) (i : Nat) (h : i < m.u.length) : (bmL m)[0 + 1 + i * 1]? = some (.bool (useAt m.u i)) := by
  rw [Nat.zero_add, Nat.mul_one, Nat.add_comm 1 i]; exact bmL_get m i h
theorem off_set (m : BM) (i : Nat) (b : Bool) : (bmL m).set (0 + 1 + i * 1) (.bool b) = bmL ⟨m.p, m.u.set i b⟩ := by
  rw [Nat.zero_add, Nat.mul_one, Nat.add_comm 1 i]; exact bmL_set m i b
theorem bmV_zero : bmV zeroM = .agg ([.int .i64 0] ++ List.replicate 512 (.bool false) : List Value).toArray := by rw [bmV, bmL_zero]

set_option maxHeartbeats 1000000 in
theorem bm_Take (m o : BM) (n : Int) (hm : m.u.length = 512) (ho : o.u.length = 512) : SpecR Tryz.prog 75 #[bmV m, bmV o, .int .i64 n] (fun _ => True) (fun r H' => r = .tuple #[bmV (takeM m o n).1, .int .i64 (takeM m o n).2.1, .int .i64 ((takeM m o n).2.2 : Int)] ∧ H' = []) := by
  refine SpecR.of (fun w _ => ?_)
  refine Calls.enter Tryz.func75 rfl rfl rfl (St.rebase w) ?_
  simp only [argSlots]
  refine Ws ?_
  (refine Wbx ?_; intro bm)
  refine Ws ?_
  (refine Wbx ?_; intro bo)
  refine Ws ?_
  refine Zal fun br => ?_
  refine Ws ?_
  refine Zla ?_ (hl := by exact bmL_length m hm)
  refine Ws ?_
  refine Zla ?_ (hl := by exact bmL_length o ho)
  refine Ws ?_
  refine Zcv (bm_alike m o hm ho) ?_
  refine Ws ?_
  (refine ZcB 17 ?_ ?_ <;> intro h1)
  · refine Ws ?_
    refine ZSa ?_ (hl := by exact z513) (hc := by exact z513) (h1 := by exact z_one)
    refine Ws ?_
    exact Zfr (h := ResL.cons (Zra z513) (ResL.cons (Res1.tmp rfl) (ResL.cons (Res1.tmp rfl) (ResL.nil)))) (hq := by simp only [tupled]; (rw [takeM, h1, Bool.true_or, if_pos rfl, bmV_zero]; rfl))
  · refine Ws ?_
    (refine Wcd ?_ ?_ <;> intro h2)
    · refine Ws ?_
      refine ZSa ?_ (hl := by exact z513) (hc := by exact z513) (h1 := by exact z_one)
      refine Ws ?_
      exact Zfr (h := ResL.cons (Zra z513) (ResL.cons (Res1.tmp rfl) (ResL.cons (Res1.tmp rfl) (ResL.nil)))) (hq := by simp only [tupled]; (rw [takeM, h1, decide_eq_true h2, Bool.false_or, if_pos rfl, bmV_zero]; rfl))
    · have hal := alikeM_spec (m := m) (o := o) (by cases hq : alikeM m o <;> simp [hq] at h1 ⊢)
      have hr := rightM_spec hal.1
      have ht : takeM m o n = match seek m o n m.p.toNat 0 with
          | some at_ => (⟨m.p, setFrom m.u true at_ n.toNat⟩, (at_ : Int), 0)
          | none => (zeroM, 0, 5) := by
        rw [takeM, h1, decide_eq_false h2, Bool.false_or, if_neg (by simp)]
        all_goals (cases seek m o n m.p.toNat 0 <;> rfl)
      refine Ws ?_
      (refine Wl (α := { i : Nat // i ≤ m.p.toNat ∧ seek m o n m.p.toNat 0 = seek m o n (m.p.toNat - i) i }) (fun x => m.p.toNat - x.1) (fun x => [(3, .pointer (some ⟨bm, 0, none⟩)), (4, .pointer (some ⟨bo, 0, none⟩)), (6, .pointer (some ⟨br, 0, none⟩)), (2, .int .i64 n), (23, .int .i64 m.p), (24, .int .i64 (x.1 : Int)), (9, .int .i64 (runTo m o x.1 : Int))]) (fun _ => [blk bm 60 (bmL m), blk bo 60 (bmL o), blk br 60 ([.int .i64 0] ++ List.replicate 512 (.bool false)), Ex (hp w)]) ⟨0, Nat.zero_le _, rfl⟩ ?_; rintro ⟨i, hi, hs⟩ mx hmx; (try dsimp only at hmx ⊢))
      refine Ws ?_
      (refine Wcd ?_ ?_ <;> intro h)
      · have hi' : i < m.p.toNat := by omega
        have hrl := runTo_le m o i
        have hf : m.p.toNat - i = (m.p.toNat - (i + 1)) + 1 := by omega
        refine Ws ?_
        refine Zl ?_ (hv := by exact off_get m i (by omega))
        refine Ws ?_
        (refine ZcB 31 ?_ ?_ <;> intro h3)
        · have hru : runTo m o (i + 1) = 0 := by rw [runTo, bothAt, h3]; rfl
          refine Ws ?_
          refine Zi 9 (runTo m o (i + 1) : Int) ?_ (hi := by rw [hru]; rfl)
          exact Zag ⟨i + 1, by omega, by rw [hs, hf, seek, if_neg (by rw [hru]; omega)]⟩
        · refine Ws ?_
          refine Zl ?_ (hv := by exact off_get o i (by omega))
          refine Ws ?_
          (refine Wcb ?_ ?_ <;> intro h4)
          · have hru : runTo m o (i + 1) = 0 := by rw [runTo, bothAt, h4, Bool.or_true]; rfl
            refine Ws ?_
            refine Zi 9 (runTo m o (i + 1) : Int) ?_ (hi := by rw [hru]; rfl)
            exact Zag ⟨i + 1, by omega, by rw [hs, hf, seek, if_neg (by rw [hru]; omega)]⟩
          · have hru : runTo m o (i + 1) = runTo m o i + 1 := by rw [runTo, bothAt, h3, h4]; rfl
            refine Ws ?_
            (refine Wcd ?_ ?_ <;> intro h5)
            · have hN : n.toNat = runTo m o i + 1 := by omega
              have hfound : seek m o n m.p.toNat 0 = some (i + 1 - n.toNat) := by rw [hs, hf, seek, if_pos (by rw [hru]; omega)]
              refine Ws ?_
              refine Zi 12 ((i + 1 - n.toNat : Nat) : Int) ?_ (hi := by omega)
              refine Zi 11 ((i + 1 - n.toNat : Nat) : Int) ?_ (hi := by omega)
              refine Zat (blk bm _ _) (blk bm 60 (bmL ⟨m.p, setFrom m.u true (i + 1 - n.toNat) 0⟩)) ?_
              (refine Wl (α := { x : Nat // x ≤ n.toNat }) (fun x => n.toNat - x.1) (fun x => [(3, .pointer (some ⟨bm, 0, none⟩)), (6, .pointer (some ⟨br, 0, none⟩)), (10, .int .i64 (i : Int)), (11, .int .i64 ((i + 1 - n.toNat : Nat) : Int)), (12, .int .i64 ((i + 1 - n.toNat + x.1 : Nat) : Int))]) (fun x => [blk bm 60 (bmL ⟨m.p, setFrom m.u true (i + 1 - n.toNat) x.1⟩), blk br 60 ([.int .i64 0] ++ List.replicate 512 (.bool false)), Ex (hp w)]) ⟨0, Nat.zero_le _⟩ ?_; rintro ⟨x, hx⟩ mx hmx; (try dsimp only at hmx ⊢))
              refine Ws ?_
              have hlen : (setFrom m.u true (i + 1 - n.toNat) x).length = 512 := by rw [setFrom_length]; exact hm
              (refine Wcd ?_ ?_ <;> intro h6)
              · have hx' : x < n.toNat := by omega
                refine Ws ?_
                refine ZS ?_ (hi := by rw [bmL_length _ hlen]; omega)
                refine Zat (blk bm _ _) (blk bm 60 (bmL ⟨m.p, setFrom m.u true (i + 1 - n.toNat) (x + 1)⟩)) ?_ (e := by rw [off_set]; rfl)
                refine Ws ?_
                exact Zag ⟨x + 1, by omega⟩
              · have e : x = n.toNat := by omega
                subst e
                refine Ws ?_
                refine Zla ?_ (hl := by exact bmL_length _ hlen)
                refine Ws ?_
                refine ZSa ?_ (hl := by exact bmL_length _ hlen) (hc := by exact z513) (h1 := by exact bmL_one _)
                refine Ws ?_
                exact Zfr (h := ResL.cons (Zra (bmL_length _ hlen)) (ResL.cons (Res1.tmp rfl) (ResL.cons (Res1.tmp rfl) (ResL.nil)))) (hq := by simp only [tupled]; (rw [ht, hfound]; rfl))
            · refine Ws ?_
              refine Zi 9 (runTo m o (i + 1) : Int) ?_ (hi := by rw [hru]; rfl)
              exact Zag ⟨i + 1, by omega, by rw [hs, hf, seek, if_neg (by rw [hru]; omega)]⟩
      · have e : i = m.p.toNat := by omega
        subst e
        have hnone : seek m o n m.p.toNat 0 = none := by rw [hs, Nat.sub_self]; rfl
        refine Ws ?_
        refine ZSa ?_ (hl := by exact z513) (hc := by exact z513) (h1 := by exact z_one)
        refine Ws ?_
        exact Zfr (h := ResL.cons (Zra z513) (ResL.cons (Res1.tmp rfl) (ResL.cons (Res1.tmp rfl) (ResL.nil)))) (hq := by simp only [tupled]; (rw [ht, hnone, bmV_zero]; rfl))
end Go.Proofs.YtcglabmlhljkmaaGreat
end
section
/- node: parts of lists that are held flat, in plain terms. -/
namespace Go.Proofs.YtcglabmlhljkmaaGreat
open Go Go.RowKit Go.Gv
set_option linter.unusedVariables false
set_option linter.unusedSimpArgs false

theorem flat_drop {α : Type} {f : α → List Value} {m : Nat} (hf : ∀ x, (f x).length = m) : ∀ (l : List α) (i : Nat), (l.flatMap f).drop (i * m) = (l.drop i).flatMap f
  | [], i => by simp
  | x :: l, 0 => by simp
  | x :: l, i + 1 => by
    have h := hf x
    rw [List.flatMap_cons, List.drop_succ_cons, ← flat_drop hf l i, Nat.add_mul, Nat.one_mul, Nat.add_comm, ← List.drop_drop, List.drop_left' h]
theorem flat_take {α : Type} {f : α → List Value} {m : Nat} (hf : ∀ x, (f x).length = m) : ∀ (l : List α) (i : Nat), (l.flatMap f).take (i * m) = (l.take i).flatMap f
  | [], i => by simp
  | x :: l, 0 => by simp
  | x :: l, i + 1 => by
    have h := hf x
    rw [List.flatMap_cons, List.take_succ_cons, List.flatMap_cons, ← flat_take hf l i, Nat.add_mul, Nat.one_mul, Nat.add_comm, List.take_append, h, List.take_of_length_le (by omega)]
    congr 2; omega
theorem flat_cut {α : Type} {f : α → List Value} {m : Nat} (hf : ∀ x, (f x).length = m) (l : List α) (lo hi : Nat) : ((l.flatMap f).drop (lo * m)).take ((hi - lo) * m) = ((l.drop lo).take (hi - lo)).flatMap f := by
  rw [flat_drop hf, flat_take hf]
theorem flat_len {α : Type} {f : α → List Value} {m : Nat} (hf : ∀ x, (f x).length = m) : ∀ l : List α, (l.flatMap f).length = l.length * m
  | [] => by simp
  | x :: l => by rw [List.flatMap_cons, List.length_append, hf x, flat_len hf l, List.length_cons, Nat.add_mul, Nat.one_mul, Nat.add_comm]
theorem flat_one {α : Type} {f : α → List Value} (hf : ∀ x, ∀ y ∈ f x, y.oneCell' = true) (l : List α) : ∀ y ∈ l.flatMap f, y.oneCell' = true := by
  intro y hy
  obtain ⟨x, _, hx⟩ := List.mem_flatMap.1 hy
  exact hf x y hx
theorem entL_len5 (e : ENT) : (entL e).length = 8 := rfl
theorem keyL_len5 (k : KEY) : (keyL k).length = 2 := rfl
theorem entL_one5 (e : ENT) : ∀ y ∈ entL e, y.oneCell' = true := by
  intro y hy
  simp only [entL, List.mem_cons, List.not_mem_nil, or_false] at hy
  rcases hy with rfl | rfl | rfl | rfl | rfl | rfl | rfl | rfl <;> rfl
theorem keyL_one5 (k : KEY) : ∀ y ∈ keyL k, y.oneCell' = true := by
  intro y hy
  simp only [keyL, List.mem_cons, List.not_mem_nil, or_false] at hy
  rcases hy with rfl | rfl <;> rfl
theorem cutE {h : PH} {v : Value} {E : List ENT} {n : Nat} (hr : Rd h v n (EL E)) (lo hi : Nat) (h1 : lo ≤ hi) (h2 : hi ≤ n) : Rd h (subv v 8 lo hi) (hi - lo) (EL ((E.drop lo).take (hi - lo))) := by
  have q := hr.subv (size := 8) h1 h2
  rw [show ((EL E).drop (lo * 8)).take ((hi - lo) * 8) = EL ((E.drop lo).take (hi - lo)) from flat_cut entL_len5 E lo hi] at q
  exact q
theorem cutK {h : PH} {v : Value} {K : List KEY} {n : Nat} (hr : Rd h v n (KL K)) (lo hi : Nat) (h1 : lo ≤ hi) (h2 : hi ≤ n) : Rd h (subv v 2 lo hi) (hi - lo) (KL ((K.drop lo).take (hi - lo))) := by
  have q := hr.subv (size := 2) h1 h2
  rw [show ((KL K).drop (lo * 2)).take ((hi - lo) * 2) = KL ((K.drop lo).take (hi - lo)) from flat_cut keyL_len5 K lo hi] at q
  exact q
theorem cutD {h : PH} {v : Value} {D : List Int} {n : Nat} (hr : Rd h v n (NL D)) (lo hi : Nat) (h1 : lo ≤ hi) (h2 : hi ≤ n) : Rd h (subv v 1 lo hi) (hi - lo) (NL ((D.drop lo).take (hi - lo))) := by
  have q := hr.subv (size := 1) h1 h2
  rw [Nat.mul_one, Nat.mul_one, show ((NL D).drop lo).take (hi - lo) = NL ((D.drop lo).take (hi - lo)) by simp [NL, List.map_take, List.map_drop]] at q
  exact q
theorem NL_one5 (D : List Int) : ∀ y ∈ NL D, y.oneCell' = true := by
  intro y hy
  obtain ⟨x, _, rfl⟩ := List.mem_map.1 hy
  rfl
theorem NL_len (D : List Int) : (NL D).length = D.length := by simp [NL]
/-- a part of a node -/
def cutL {α : Type} (l : List α) (lo hi : Nat) : List α := (l.drop lo).take (hi - lo)
theorem cutL_len {α : Type} (l : List α) (lo hi : Nat) (h2 : hi ≤ l.length) : (cutL l lo hi).length = hi - lo := by
  unfold cutL
  rw [List.length_take, List.length_drop]; omega
end Go.Proofs.YtcglabmlhljkmaaGreat
end
section
/- node: between the program's and the reference's. -/
namespace Go.Proofs.YtcglabmlhljkmaaGreat
open Go Go.RowKit Go.Gv
set_option linter.unusedVariables false
set_option linter.unusedSimpArgs false

set_option maxHeartbeats 1000000 in
theorem law12_Entry (e : ENT) : SpecR Tryz.prog 13 #[entV e] (fun _ => True) (fun r H' => r = entV e ∧ H' = []) := by
  refine SpecR.of (fun w _ => ?_)
  refine Calls.enter Tryz.func13 rfl rfl rfl (St.rebase w) ?_
  simp only [argSlots]
  refine Ws ?_
  (refine Wbx ?_; intro b1)
  refine Ws ?_
  refine Zal fun b2 => ?_
  refine Ws ?_
  refine Zbu (ys := keyL e.key) ?_
  refine Ws ?_
  refine Zbu (ys := entL e) ?_
  refine Ws ?_
  refine ZSa (ys := entL e) ?_ (h1 := by exact entL_one _)
  refine Ws ?_
  exact Zfn [] (h := ResL.cons (Zra (entL_len e)) (ResL.nil)) (hq := by exact ⟨rfl, rfl⟩)
end Go.Proofs.YtcglabmlhljkmaaGreat
end
section
/- slices: Clone, for the elements of a node (printed by mkslices.py). -/
namespace Go.Proofs.YtcglabmlhljkmaaGreat
open Go Go.RowKit Go.Gv
set_option linter.unusedVariables false
set_option linter.unusedSimpArgs false

theorem slices_Cloneint (v : Value) (n : Nat) (xs : List Value) (hl : xs.length = n * 1) (h1 : ∀ y ∈ xs, y.oneCell' = true) (hb : n ≤ 5000000) : SpecR Tryz.prog 103 #[v] (fun w => RdW w v n xs) (fun r H' => H' = [own 3 1 r n xs]) := by
  refine SpecR.of (fun w hr => ?_)
  refine Calls.enter Tryz.func103 rfl rfl rfl (St.rebase w) ?_
  simp only [argSlots]
  refine Ws ?_
  refine ZoeqlSN ?_ (hr := by exact rdw_ex Wp hr)
  intro b hbl
  cases b
  · refine Ws ?_
    (refine Zli (ys := []) ?_; intro vr)
    refine Ws ?_
    refine Zap ?_ (hr := by exact rdw_ex Wp hr) (hl := by exact hl) (h1 := by exact h1)
    intro v'
    refine Ws ?_
    ((with_reducible apply Tri.eqA (A := own 3 1 v' _ _) (B := own 3 1 v' n xs)); (case p => (first | ((repeat (first | with_reducible exact Pull.head | with_reducible apply Pull.tail)); done) | (repeat (first | exact Pull.head | apply Pull.tail)))); (case e => (rw [Nat.zero_add, List.nil_append])))
    refine Zfn [own 3 1 v' n xs] (hq := ?_)
    simp only [tupled]
  · have hx : xs = [] := hbl rfl
    subst hx
    obtain rfl : n = 0 := by simp at hl; omega
    refine Ws ?_
    (with_reducible apply Tri.ownNil 3 1)
    refine Zfn [own 3 1 (.slice none 0 0) 0 []] (hq := ?_)
    rfl

theorem slices_CloneKey (v : Value) (n : Nat) (xs : List Value) (hl : xs.length = n * 2) (h1 : ∀ y ∈ xs, y.oneCell' = true) (hb : n ≤ 5000000) : SpecR Tryz.prog 102 #[v] (fun w => RdW w v n xs) (fun r H' => H' = [own 38 2 r n xs]) := by
  refine SpecR.of (fun w hr => ?_)
  refine Calls.enter Tryz.func102 rfl rfl rfl (St.rebase w) ?_
  simp only [argSlots]
  refine Ws ?_
  refine ZoeqlSN ?_ (hr := by exact rdw_ex Wp hr)
  intro b hbl
  cases b
  · refine Ws ?_
    (refine Zli (ys := []) ?_; intro vr)
    refine Ws ?_
    refine Zap ?_ (hr := by exact rdw_ex Wp hr) (hl := by exact hl) (h1 := by exact h1)
    intro v'
    refine Ws ?_
    ((with_reducible apply Tri.eqA (A := own 38 2 v' _ _) (B := own 38 2 v' n xs)); (case p => (first | ((repeat (first | with_reducible exact Pull.head | with_reducible apply Pull.tail)); done) | (repeat (first | exact Pull.head | apply Pull.tail)))); (case e => (rw [Nat.zero_add, List.nil_append])))
    refine Zfn [own 38 2 v' n xs] (hq := ?_)
    simp only [tupled]
  · have hx : xs = [] := hbl rfl
    subst hx
    obtain rfl : n = 0 := by simp at hl; omega
    refine Ws ?_
    (with_reducible apply Tri.ownNil 38 2)
    refine Zfn [own 38 2 (.slice none 0 0) 0 []] (hq := ?_)
    rfl

theorem slices_CloneEntry (v : Value) (n : Nat) (xs : List Value) (hl : xs.length = n * 8) (h1 : ∀ y ∈ xs, y.oneCell' = true) (hb : n ≤ 5000000) : SpecR Tryz.prog 59 #[v] (fun w => RdW w v n xs) (fun r H' => H' = [own 40 8 r n xs]) := by
  refine SpecR.of (fun w hr => ?_)
  refine Calls.enter Tryz.func59 rfl rfl rfl (St.rebase w) ?_
  simp only [argSlots]
  refine Ws ?_
  refine ZoeqlSN ?_ (hr := by exact rdw_ex Wp hr)
  intro b hbl
  cases b
  · refine Ws ?_
    (refine Zli (ys := []) ?_; intro vr)
    refine Ws ?_
    refine Zap ?_ (hr := by exact rdw_ex Wp hr) (hl := by exact hl) (h1 := by exact h1)
    intro v'
    refine Ws ?_
    ((with_reducible apply Tri.eqA (A := own 40 8 v' _ _) (B := own 40 8 v' n xs)); (case p => (first | ((repeat (first | with_reducible exact Pull.head | with_reducible apply Pull.tail)); done) | (repeat (first | exact Pull.head | apply Pull.tail)))); (case e => (rw [Nat.zero_add, List.nil_append])))
    refine Zfn [own 40 8 v' n xs] (hq := ?_)
    simp only [tupled]
  · have hx : xs = [] := hbl rfl
    subst hx
    obtain rfl : n = 0 := by simp at hl; omega
    refine Ws ?_
    (with_reducible apply Tri.ownNil 40 8)
    refine Zfn [own 40 8 (.slice none 0 0) 0 []] (hq := ?_)
    rfl

end Go.Proofs.YtcglabmlhljkmaaGreat
end
section
/- slices: Concat of two, for the elements of a node (printed by mkslices.py). -/
namespace Go.Proofs.YtcglabmlhljkmaaGreat
open Go Go.RowKit Go.Gv
set_option linter.unusedVariables false
set_option linter.unusedSimpArgs false
def s3 (a b : Nat) : Nat → Nat
  | 0 => 0
  | 1 => a
  | _ => a + b
def x3 {α : Type} (a b : List α) : Nat → List α
  | 0 => []
  | 1 => a
  | _ => a ++ b
end Go.Proofs.YtcglabmlhljkmaaGreat
end
section
/- node: part, Join. -/
namespace Go.Proofs.YtcglabmlhljkmaaGreat
open Go Go.RowKit Go.Gv
set_option linter.unusedVariables false
set_option linter.unusedSimpArgs false

/-- what a node owns -/
def ownN (u1 u2 u3 : Value) (E : List ENT) (K : List KEY) (D : List Int) : List Atom := [own 40 8 u1 E.length (EL E), own 38 2 u2 K.length (KL K), own 3 1 u3 D.length (NL D)]
theorem EL_ones (E : List ENT) : ∀ y ∈ EL E, y.oneCell' = true := flat_one entL_one5 E
theorem KL_ones (K : List KEY) : ∀ y ∈ KL K, y.oneCell' = true := flat_one keyL_one5 K
theorem EL_lens (E : List ENT) {n : Nat} (h : E.length = n) : (EL E).length = n * 8 := by rw [← h]; exact flat_len entL_len5 E
theorem KL_lens (K : List KEY) {n : Nat} (h : K.length = n) : (KL K).length = n * 2 := by rw [← h]; exact flat_len keyL_len5 K
theorem NL_lens (D : List Int) {n : Nat} (h : D.length = n) : (NL D).length = n * 1 := by rw [NL_len, h, Nat.mul_one]
set_option maxHeartbeats 4000000 in
theorem node_part_leaf (ev kv dv : Value) (E : List ENT) (K : List KEY) (D : List Int) (lo hi : Nat) (h1 : lo ≤ hi) (h2 : hi ≤ E.length) (hb : hi ≤ 5000000) : SpecR Tryz.prog 115 #[ndW true ev kv dv, .int .i64 (lo : Int), .int .i64 (hi : Int)] (fun w => ndR w ev kv dv E K D) (fun r H' => ∃ u1 u2 u3, r = ndW true u1 u2 u3 ∧ H' = ownN u1 u2 u3 (cutL E lo hi) [] []) := by
  refine SpecR.of (fun w hr => ?_)
  obtain ⟨hrE, hrK, hrD⟩ := hr
  have q1 := cutE hrE lo hi h1 h2
  have hcl := cutL_len E lo hi h2
  have hx1 := EL_lens (cutL E lo hi) hcl
  refine Calls.enter Tryz.func115 rfl rfl rfl (St.rebase w) ?_
  simp only [argSlots]
  refine Ws ?_
  (refine Wbx ?_; intro b3)
  refine Ws ?_
  refine Zal fun b6 => ?_
  refine Ws ?_
  refine Zsl (lo := lo) (hi := hi) ?_ (hr := by exact rdw_ex Wp hrE)
  refine Ws ?_
  refine Zcr (slices_CloneEntry (subv ev 8 lo hi) (hi - lo) (EL (cutL E lo hi)) hx1 (EL_ones _) (by omega)) ?_ (hpre := by exact rdw_ex Wp q1)
  rintro u1 H1 rfl
  refine Wap ?_
  refine Ws ?_
  refine Tri.shape (e := 40) (size := 8) (v := u1) Wp ?_
  rintro ⟨A1, c1, rfl⟩
  refine Zbu (ys := ndLL true (.slice A1 (hi - lo) c1) (.slice none 0 0) (.slice none 0 0)) ?_
  refine Ws ?_
  refine ZSa (ys := ndLL true (.slice A1 (hi - lo) c1) (.slice none 0 0) (.slice none 0 0)) ?_ (h1 := by exact ndLL_one true A1 none none _ c1 0 0 0 0)
  refine Ws ?_
  (with_reducible apply Tri.ownNil 38 2)
  (with_reducible apply Tri.ownNil 3 1)
  refine Zat (own 40 8 (.slice A1 (hi - lo) c1) _ _) (own 40 8 (.slice A1 (hi - lo) c1) (cutL E lo hi).length (EL (cutL E lo hi))) ?_ (e := by rw [hcl])
  exact Zfn [own 40 8 (.slice A1 (hi - lo) c1) (cutL E lo hi).length (EL (cutL E lo hi)), own 38 2 (.slice none 0 0) 0 [], own 3 1 (.slice none 0 0) 0 []] (h := ResL.cons (Zra (rfl : (ndLL true (.slice A1 (hi - lo) c1) (.slice none 0 0) (.slice none 0 0)).length = 4)) (ResL.nil)) (hq := by exact ⟨_, _, _, rfl, rfl⟩)
set_option maxHeartbeats 4000000 in
theorem node_part_inner (ev kv dv : Value) (E : List ENT) (K : List KEY) (D : List Int) (lo hi : Nat) (h1 : lo ≤ hi) (h2 : hi ≤ D.length) (hk : K.length = D.length) (hb : hi ≤ 5000000) : SpecR Tryz.prog 115 #[ndW false ev kv dv, .int .i64 (lo : Int), .int .i64 (hi : Int)] (fun w => ndR w ev kv dv E K D) (fun r H' => ∃ u1 u2 u3, r = ndW false u1 u2 u3 ∧ H' = ownN u1 u2 u3 [] (cutL K lo hi) (cutL D lo hi)) := by
  refine SpecR.of (fun w hr => ?_)
  obtain ⟨hrE, hrK, hrD⟩ := hr
  have h3 : hi ≤ K.length := by omega
  have q1 := cutK hrK lo hi h1 h3
  have q2 := cutD hrD lo hi h1 h2
  have hcl := cutL_len K lo hi h3
  have hcl2 := cutL_len D lo hi h2
  have hx1 := KL_lens (cutL K lo hi) hcl
  have hx2 := NL_lens (cutL D lo hi) hcl2
  refine Calls.enter Tryz.func115 rfl rfl rfl (St.rebase w) ?_
  simp only [argSlots]
  refine Ws ?_
  (refine Wbx ?_; intro b3)
  refine Ws ?_
  refine Zal fun b6 => ?_
  refine Ws ?_
  refine Wm [blk b3 125 (ndLL false ev kv dv), Ex (hp w)] ?_
  refine Wq [0, 1, 2, 3] ?_
  refine Zm 4 (h := fun _ _ x => by exact Zsl (lo := lo) (hi := hi) x (hr := by exact rdw_ex Wp hrK)) (k := ?_)
  refine Wq [6, 7, 8, 9] ?_
  refine Zm 10 (h := fun _ _ x => by exact Zsl (lo := lo) (hi := hi) x (hr := by exact rdw_ex Wp hrD)) (k := ?_)
  refine ZA 5 ?_
  refine Zcr (slices_CloneKey (subv kv 2 lo hi) (hi - lo) (KL (cutL K lo hi)) hx1 (KL_ones _) (by omega)) ?_ (hpre := by exact rdw_ex Wp q1)
  rintro u1 H1 rfl
  refine Wap ?_
  refine Tri.shape (e := 38) (size := 2) (v := u1) Wp ?_
  rintro ⟨A1, c1, rfl⟩
  refine Zw ?_
  refine ZA 11 ?_
  refine Zcr (slices_Cloneint (subv dv 1 lo hi) (hi - lo) (NL (cutL D lo hi)) hx2 (NL_one5 _) (by omega)) ?_ (hpre := by exact rdw_ex Wp q2)
  rintro u2 H2 rfl
  refine Wap ?_
  refine Tri.shape (e := 3) (size := 1) (v := u2) Wp ?_
  rintro ⟨A2, c2, rfl⟩
  refine Zw ?_
  refine Zm 12 (h := fun _ _ x => by exact Zbu (ys := ndLL false (.slice none 0 0) (.slice A1 (hi - lo) c1) (.slice A2 (hi - lo) c2)) x) (k := ?_)
  refine ZA 13 ?_
  refine ZSa (ys := ndLL false (.slice none 0 0) (.slice A1 (hi - lo) c1) (.slice A2 (hi - lo) c2)) ?_ (h1 := by exact ndLL_one false none A1 A2 0 0 _ c1 _ c2)
  refine Zw ?_
  refine ZE ?_
  refine Ws ?_
  (with_reducible apply Tri.ownNil 40 8)
  refine Zat (own 38 2 (.slice A1 (hi - lo) c1) _ _) (own 38 2 (.slice A1 (hi - lo) c1) (cutL K lo hi).length (KL (cutL K lo hi))) ?_ (e := by rw [hcl])
  refine Zat (own 3 1 (.slice A2 (hi - lo) c2) _ _) (own 3 1 (.slice A2 (hi - lo) c2) (cutL D lo hi).length (NL (cutL D lo hi))) ?_ (e := by rw [hcl2])
  exact Zfn [own 40 8 (.slice none 0 0) 0 [], own 38 2 (.slice A1 (hi - lo) c1) (cutL K lo hi).length (KL (cutL K lo hi)), own 3 1 (.slice A2 (hi - lo) c2) (cutL D lo hi).length (NL (cutL D lo hi))] (h := ResL.cons (Zra (rfl : (ndLL false (.slice none 0 0) (.slice A1 (hi - lo) c1) (.slice A2 (hi - lo) c2)).length = 4)) (ResL.nil)) (hq := by exact ⟨_, _, _, rfl, rfl⟩)
theorem EL_app (a b : List ENT) : EL (a ++ b) = EL a ++ EL b := by simp [EL]
theorem KL_app (a b : List KEY) : KL (a ++ b) = KL a ++ KL b := by simp [KL]
theorem NL_app (a b : List Int) : NL (a ++ b) = NL a ++ NL b := by simp [NL]
end Go.Proofs.YtcglabmlhljkmaaGreat
end
section
/- node: a node that is split, in plain terms. -/
namespace Go.Proofs.YtcglabmlhljkmaaGreat
open Go Go.RowKit Go.Gv
set_option linter.unusedVariables false
set_option linter.unusedSimpArgs false

structure ND3 where
  E : List ENT
  K : List KEY
  D : List Int
/-- leaf or inner: how many -/
def szN (leaf : Bool) (x : ND3) : Nat := if leaf then x.E.length else x.D.length
def okN (leaf : Bool) (x : ND3) : Prop := if leaf then x.K = [] ∧ x.D = [] else x.E = [] ∧ x.K.length = x.D.length
def partN (leaf : Bool) (x : ND3) (lo hi : Nat) : ND3 := if leaf then ⟨cutL x.E lo hi, [], []⟩ else ⟨[], cutL x.K lo hi, cutL x.D lo hi⟩
theorem partN_sz {leaf : Bool} {x : ND3} {lo hi : Nat} (h : hi ≤ szN leaf x) : szN leaf (partN leaf x lo hi) = hi - lo := by
  cases leaf
  · exact cutL_len x.D lo hi h
  · exact cutL_len x.E lo hi h
theorem partN_ok {leaf : Bool} {x : ND3} {lo hi : Nat} (hx : okN leaf x) (h : hi ≤ szN leaf x) : okN leaf (partN leaf x lo hi) := by
  cases leaf
  · have h2 : hi ≤ x.D.length := h
    have h3 : x.K.length = x.D.length := hx.2
    exact ⟨rfl, by show (cutL x.K lo hi).length = (cutL x.D lo hi).length; rw [cutL_len _ _ _ (by omega), cutL_len _ _ _ h2]⟩
  · exact ⟨rfl, rfl⟩
theorem cutL_all {α : Type} (l : List α) : cutL l 0 l.length = l := by
  unfold cutL
  rw [List.drop_zero, Nat.sub_zero, List.take_length]
theorem cutL_app {α : Type} (l : List α) (m : Nat) (h : m ≤ l.length) : cutL l 0 m ++ cutL l m l.length = l := by
  unfold cutL
  rw [List.drop_zero, Nat.sub_zero, List.take_of_length_le (l := l.drop m) (by rw [List.length_drop]; omega), List.take_append_drop]
theorem partN_all {leaf : Bool} {x : ND3} (hx : okN leaf x) : partN leaf x 0 (szN leaf x) = x := by
  obtain ⟨E, K, D⟩ := x
  cases leaf
  · obtain ⟨h1, h2⟩ := hx
    simp only at h1 h2
    subst h1
    show ND3.mk [] (cutL K 0 D.length) (cutL D 0 D.length) = _
    rw [cutL_all, ← h2, cutL_all]
  · obtain ⟨h1, h2⟩ := hx
    simp only at h1 h2
    subst h1; subst h2
    show ND3.mk (cutL E 0 E.length) [] [] = _
    rw [cutL_all]
def mostN (leaf : Bool) : Nat := if leaf then 7 else 16
/-- the parts of a node -/
def splN (leaf : Bool) : Nat → ND3 → List ND3
  | 0, _ => []
  | f + 1, x => if szN leaf x = 0 then [] else if szN leaf x ≤ mostN leaf then [partN leaf x 0 (szN leaf x)] else
      splN leaf f (partN leaf x 0 ((szN leaf x + 1) / 2)) ++ splN leaf f (partN leaf x ((szN leaf x + 1) / 2) (szN leaf x))
theorem most_pos (leaf : Bool) : 7 ≤ mostN leaf := by cases leaf <;> decide
/-- the parts are neither too large nor, but for a single one, too small -/
theorem splN_sz {leaf : Bool} : ∀ (f : Nat) (x : ND3), okN leaf x → ∀ y ∈ splN leaf f x, okN leaf y ∧ 1 ≤ szN leaf y ∧ szN leaf y ≤ mostN leaf ∧ (mostN leaf < szN leaf x → mostN leaf ≤ 2 * szN leaf y)
  | 0, x, hx, y, hy => by cases hy
  | f + 1, x, hx, y, hy => by
    have hm := most_pos leaf
    rw [splN] at hy
    split at hy
    · cases hy
    · rename_i h0
      split at hy
      · rename_i h1
        simp only [List.mem_singleton] at hy
        subst hy
        have s1 := partN_sz (leaf := leaf) (x := x) (lo := 0) (Nat.le_refl (szN leaf x))
        exact ⟨partN_ok hx (Nat.le_refl _), by omega, by omega, fun c => by omega⟩
      · rename_i h1
        have a1 : (szN leaf x + 1) / 2 ≤ szN leaf x := by omega
        have s1 := partN_sz (leaf := leaf) (x := x) (lo := 0) a1
        have s2 := partN_sz (leaf := leaf) (x := x) (lo := (szN leaf x + 1) / 2) (Nat.le_refl _)
        have key : ∀ (p : ND3), okN leaf p → y ∈ splN leaf f p → mostN leaf ≤ 2 * szN leaf p → okN leaf y ∧ 1 ≤ szN leaf y ∧ szN leaf y ≤ mostN leaf ∧ mostN leaf ≤ 2 * szN leaf y := by
          intro p hp hyp hsz
          obtain ⟨k1, k2, k3, k4⟩ := splN_sz f p hp y hyp
          refine ⟨k1, k2, k3, ?_⟩
          by_cases hc : mostN leaf < szN leaf p
          · exact k4 hc
          · cases f with
            | zero => cases hyp
            | succ f =>
              rw [splN, if_neg (by omega), if_pos (by omega)] at hyp
              simp only [List.mem_singleton] at hyp
              rw [hyp, partN_sz (Nat.le_refl _)]
              omega
        rcases List.mem_append.1 hy with hy | hy
        · obtain ⟨k1, k2, k3, k4⟩ := key _ (partN_ok hx a1) hy (by omega)
          exact ⟨k1, k2, k3, fun _ => k4⟩
        · obtain ⟨k1, k2, k3, k4⟩ := key _ (partN_ok hx (Nat.le_refl _)) hy (by omega)
          exact ⟨k1, k2, k3, fun _ => k4⟩
end Go.Proofs.YtcglabmlhljkmaaGreat
end
