import Derived.Test.YtckdlfbbkemklaaZNjWalk2
import Derived.Test.YtckdlfbbkemklaaZG
import Derived.Test.YtckdlfbbkemklaaZI
/- node: Split. -/
namespace Go.Proofs.Ytckdlfbbkemklaa
open Go Go.RowKit Go.Gv
set_option linter.unusedVariables false
set_option linter.unusedSimpArgs false

/-- the nodes of a list, and what they hold -/
def NDL (leaf : Bool) (VS : List (Value × Value × Value)) : List Value := VS.flatMap fun v => ndLL leaf v.1 v.2.1 v.2.2
def RDS : List (Value × Value × Value) → List ND3 → List (Value × Nat × List Value)
  | v :: VS, x :: xs => (v.1, x.E.length, EL x.E) :: (v.2.1, x.K.length, KL x.K) :: (v.2.2, x.D.length, NL x.D) :: RDS VS xs
  | _, _ => []
theorem RDS_app : ∀ (V1 V2 : List (Value × Value × Value)) (x1 x2 : List ND3), V1.length = x1.length → RDS (V1 ++ V2) (x1 ++ x2) = RDS V1 x1 ++ RDS V2 x2
  | [], V2, [], x2, _ => rfl
  | v :: V1, V2, x :: x1, x2, h => by
    rw [List.cons_append, List.cons_append, RDS, RDS, RDS_app V1 V2 x1 x2 (by simpa using h)]
    rfl
theorem NDL_app (leaf : Bool) (a b : List (Value × Value × Value)) : NDL leaf (a ++ b) = NDL leaf a ++ NDL leaf b := by simp [NDL]
theorem NDL_len (leaf : Bool) (a : List (Value × Value × Value)) : (NDL leaf a).length = a.length * 4 := flat_len (f := fun v : Value × Value × Value => ndLL leaf v.1 v.2.1 v.2.2) (fun _ => rfl) a
def ownX (leaf : Bool) (r : Value) (f : Nat) (x : ND3) (H : List Atom) : Prop := ∃ VS : List (Value × Value × Value), VS.length = (splN leaf f x).length ∧ (∀ v ∈ VS, ∃ A a B b C c i j k, v = (Value.slice A i a, Value.slice B j b, Value.slice C k c)) ∧ H = [own 33 4 r VS.length (NDL leaf VS), manyRd (RDS VS (splN leaf f x))]
theorem splN_len {leaf : Bool} : ∀ (f : Nat) (x : ND3), (splN leaf f x).length ≤ szN leaf x
  | 0, x => Nat.zero_le _
  | f + 1, x => by
    have hm := most_pos leaf
    rw [splN]
    split
    · exact Nat.zero_le _
    · split
      · show 1 ≤ _; omega
      · have a1 : (szN leaf x + 1) / 2 ≤ szN leaf x := by omega
        have s1 := partN_sz (leaf := leaf) (x := x) (lo := 0) a1
        have s2 := partN_sz (leaf := leaf) (x := x) (lo := (szN leaf x + 1) / 2) (Nat.le_refl _)
        have q1 := splN_len (leaf := leaf) f (partN leaf x 0 ((szN leaf x + 1) / 2))
        have q2 := splN_len (leaf := leaf) f (partN leaf x ((szN leaf x + 1) / 2) (szN leaf x))
        rw [List.length_append]; omega
theorem NDL_one {leaf : Bool} {VS : List (Value × Value × Value)} (h : ∀ v ∈ VS, ∃ A a B b C c i j k, v = (Value.slice A i a, Value.slice B j b, Value.slice C k c)) : ∀ y ∈ NDL leaf VS, y.oneCell' = true := by
  intro y hy
  obtain ⟨v, hv, hyv⟩ := List.mem_flatMap.1 hy
  obtain ⟨A, a, B, b, C, c, i, j, k, rfl⟩ := h v hv
  exact ndLL_one leaf A B C i a j b k c y hyv
/-- part, leaf or inner -/
theorem node_part (leaf : Bool) (ev kv dv : Value) (x : ND3) (lo hi : Nat) (hx : okN leaf x) (h1 : lo ≤ hi) (h2 : hi ≤ szN leaf x) (hb : hi ≤ 5000000) : SpecR Try.prog 49 #[ndW leaf ev kv dv, .int .i64 (lo : Int), .int .i64 (hi : Int)] (fun w => ndR w ev kv dv x.E x.K x.D) (fun r H' => ∃ u1 u2 u3, r = ndW leaf u1 u2 u3 ∧ H' = ownN u1 u2 u3 (partN leaf x lo hi).E (partN leaf x lo hi).K (partN leaf x lo hi).D) := by
  cases leaf
  · exact node_part_inner ev kv dv x.E x.K x.D lo hi h1 h2 hx.2 hb
  · exact node_part_leaf ev kv dv x.E x.K x.D lo hi h1 h2 hb
set_option maxHeartbeats 8000000 in
theorem node_Split (leaf : Bool) : ∀ (f : Nat) (x : ND3) (ev kv dv : Value), okN leaf x → szN leaf x ≤ f → szN leaf x ≤ 4500000 → SpecR Try.prog 11 #[ndW leaf ev kv dv] (fun w => ndR w ev kv dv x.E x.K x.D) (fun r H' => ownX leaf r (f + 1) x H') := by
  intro f
  induction f using Nat.strongRecOn with
  | ind f ih =>
  intro x ev kv dv hx hf hb
  refine SpecR.of (fun w hr => ?_)
  obtain ⟨hrE, hrK, hrD⟩ := id hr
  refine Calls.enter Try.func11 rfl rfl rfl (St.rebase w) ?_
  simp only [argSlots]
  ((with_reducible refine Tri.seq (Tri.region ?_)); (with_reducible apply Tri.op); rfl)
  (first | ((with_reducible apply o_boxA); (case hx => rfl); (case hn => rfl); intro b1) | ((with_reducible apply o_box1); (case hx => rfl); (case h1 => rfl); (case hn => rfl); intro b1))
  ((with_reducible apply Tri.op); rfl; (with_reducible apply o_assign); rfl; rfl; (with_reducible refine Tri.nil (Tri.thenN (Tri.seq (Tri.region ?_)))); (with_reducible apply Tri.op); rfl)
  ((with_reducible apply o_loadAll (cs := ndLL leaf ev kv dv)); (case hx => rfl); (case p => exact (by (first | ((repeat (first | with_reducible exact Pull.head | with_reducible apply Pull.tail)); done) | (repeat (first | exact Pull.head | apply Pull.tail))))); (case hl => rfl); (case hn => rfl))
  ((with_reducible apply Tri.op); rfl)
  ((with_reducible apply o_callV (hs := node_Size leaf ev kv dv x.E x.K x.D)); (case hargs => (repeat first | exact evs.nil | (apply evs.cons; case a => rfl))); (case hpre => exact fun w' hw' => ⟨rdw_ex (by (first | ((repeat (first | with_reducible exact Pull.head | with_reducible apply Pull.tail)); done) | (repeat (first | exact Pull.head | apply Pull.tail)))) hrE w' hw', rdw_ex (by (first | ((repeat (first | with_reducible exact Pull.head | with_reducible apply Pull.tail)); done) | (repeat (first | exact Pull.head | apply Pull.tail)))) hrK w' hw', rdw_ex (by (first | ((repeat (first | with_reducible exact Pull.head | with_reducible apply Pull.tail)); done) | (repeat (first | exact Pull.head | apply Pull.tail)))) hrD w' hw'⟩); (case hn => rfl))
  have hsz : sizeN leaf x.E x.D = szN leaf x := rfl
  rw [hsz]
  obtain ⟨n, hn⟩ : ∃ n, n = szN leaf x := ⟨_, rfl⟩
  rw [← hn] at hf hb ⊢
  ((with_reducible apply Tri.op); rfl; (with_reducible apply o_assign); rfl; rfl; (with_reducible apply Tri.op); rfl; (with_reducible apply o_assign); rfl; rfl; (with_reducible refine Tri.nil (Tri.thenN ?_)))
  ((first | with_reducible apply Tri.seqMeet (α := Unit) (Lx := fun _ => [(1, .pointer (some ⟨b1, 0, none⟩)), (2, .slice none 0 0), (3, .int .i64 (n : Int)), (4, .int .i64 ((mostN leaf : Nat) : Int))]) (Hx := fun _ => [blk b1 33 (ndLL leaf ev kv dv), Ex (hp w)]) | with_reducible apply TriR.seqMeet (α := Unit) (Lx := fun _ => [(1, .pointer (some ⟨b1, 0, none⟩)), (2, .slice none 0 0), (3, .int .i64 (n : Int)), (4, .int .i64 ((mostN leaf : Nat) : Int))]) (Hx := fun _ => [blk b1 33 (ndLL leaf ev kv dv), Ex (hp w)])); rotate_left; (rintro ⟨⟩; (try dsimp only)); rotate_left)
  · cases leaf
    · ((with_reducible refine Tri.seq (Tri.region ?_)); (with_reducible apply Tri.op); rfl; (with_reducible apply o_fieldAddr); rfl; rfl; (with_reducible apply Tri.op); rfl; (with_reducible apply o_load); rfl; (focus (first | ((repeat (first | with_reducible exact Pull.head | with_reducible apply Pull.tail)); done) | (repeat (first | exact Pull.head | apply Pull.tail)))); rfl; rfl; (with_reducible refine Tri.nil (Tri.thenN ?_)); (with_reducible apply Tri.condF); rfl; rfl; (with_reducible refine Tri.skip (Tri.thenN ?_)))
      skip
      ((with_reducible apply Tri.reach (y := ())); (case hL => ((try dsimp only); (repeat (first | exact trivial | refine And.intro (by rfl) ?_)))); (case p => ((try dsimp only); (repeat (first | exact Pulls.nil | (apply Pulls.cons; (case a => (first | ((repeat (first | with_reducible exact Gv.Pull.head | with_reducible apply Gv.Pull.tail)); done) | (repeat (first | exact Gv.Pull.head | apply Gv.Pull.tail))))))))))
    · ((with_reducible refine Tri.seq (Tri.region ?_)); (with_reducible apply Tri.op); rfl; (with_reducible apply o_fieldAddr); rfl; rfl; (with_reducible apply Tri.op); rfl; (with_reducible apply o_load); rfl; (focus (first | ((repeat (first | with_reducible exact Pull.head | with_reducible apply Pull.tail)); done) | (repeat (first | exact Pull.head | apply Pull.tail)))); rfl; rfl; (with_reducible refine Tri.nil (Tri.thenN ?_)); (with_reducible apply Tri.condT); rfl; rfl; (with_reducible refine Tri.region ?_); (with_reducible apply Tri.op); rfl; (with_reducible apply o_assign); rfl; rfl; (with_reducible refine Tri.nil (Tri.thenN ?_)))
      skip
      ((with_reducible apply Tri.reach (y := ())); (case hL => ((try dsimp only); (repeat (first | exact trivial | refine And.intro (by rfl) ?_)))); (case p => ((try dsimp only); (repeat (first | exact Pulls.nil | (apply Pulls.cons; (case a => (first | ((repeat (first | with_reducible exact Gv.Pull.head | with_reducible apply Gv.Pull.tail)); done) | (repeat (first | exact Gv.Pull.head | apply Gv.Pull.tail))))))))))
  have hm := most_pos leaf
  ((with_reducible refine Tri.seq (Tri.block (Tri.seq (Tri.region ?_)))); (with_reducible apply Tri.op); rfl; (with_reducible apply o_move); rfl; rfl; (with_reducible apply Tri.op); rfl; (with_reducible apply o_eql); rfl; rfl; rfl; (with_reducible apply Tri.op); rfl; (with_reducible apply o_assign); rfl; rfl; (with_reducible refine Tri.nil (Tri.thenN ?_)))
  ((first | with_reducible apply Tri.condD | with_reducible apply TriR.condD); (case hc => rfl); (all_goals intro h0))
  · have h0' : n = 0 := by omega
    have hs : splN leaf (f + 1) x = [] := by rw [splN, if_pos (by omega)]
    ((with_reducible refine Tri.seq (Tri.region ?_)); (with_reducible apply Tri.op); rfl; (with_reducible apply o_assign); rfl; rfl; (with_reducible refine Tri.nil (Tri.thenN (Tri.ret (Tri.blockR (Tri.thenR ?_))))))
    (with_reducible apply Tri.ownNil 33 4)
    (with_reducible apply Tri.noneM)
    ((first | with_reducible apply Tri.fin | with_reducible apply Tri.finN); (case hr => rfl); (case h => (repeat (first | exact ResL.nil | (apply ResL.cons; (case a => (first | exact Res1.tmp rfl | (apply Res1.cell; rfl; (first | ((repeat (first | with_reducible exact Pull.head | with_reducible apply Pull.tail)); done) | (repeat (first | exact Pull.head | apply Pull.tail))); rfl) | (apply Res1.agg; rfl; (first | ((repeat (first | with_reducible exact Pull.head | with_reducible apply Pull.tail)); done) | (repeat (first | exact Pull.head | apply Pull.tail))); rfl; rfl))))))); (apply fin_R (Hn := [own 33 4 (.slice none 0 0) 0 [], manyRd []])); (case p => (repeat (first | exact Pulls.nil | (apply Pulls.cons; (case a => (first | ((repeat (first | with_reducible exact Gv.Pull.head | with_reducible apply Gv.Pull.tail)); done) | (repeat (first | exact Gv.Pull.head | apply Gv.Pull.tail)))))))))
    exact ⟨[], (by rw [hs]; rfl), (fun v hv => by cases hv), (by rw [hs]; rfl)⟩
  · ((with_reducible refine Tri.seq (Tri.region ?_)); (with_reducible apply Tri.op); rfl; (with_reducible apply o_move); rfl; rfl; (with_reducible apply Tri.op); rfl; (with_reducible apply o_move); rfl; rfl; (with_reducible apply Tri.op); rfl; (with_reducible apply o_leq); rfl; rfl; rfl; (with_reducible apply Tri.op); rfl; (with_reducible apply o_assign); rfl; rfl; (with_reducible refine Tri.nil (Tri.thenN ?_)))
    ((first | with_reducible apply Tri.condD | with_reducible apply TriR.condD); (case hc => rfl); (all_goals intro h1))
    · have h1' : n ≤ mostN leaf := by omega
      have hs : splN leaf (f + 1) x = [partN leaf x 0 n] := by rw [splN, if_neg (by omega), if_pos (by omega), ← hn]
      ((with_reducible refine Tri.seq (Tri.region ?_)); (with_reducible apply Tri.op); rfl)
      ((with_reducible apply o_loadAll (cs := ndLL leaf ev kv dv)); (case hx => rfl); (case p => exact (by (first | ((repeat (first | with_reducible exact Pull.head | with_reducible apply Pull.tail)); done) | (repeat (first | exact Pull.head | apply Pull.tail))))); (case hl => rfl); (case hn => rfl))
      ((with_reducible apply Tri.op); rfl; (with_reducible apply o_move); rfl; rfl; (with_reducible apply Tri.op); rfl)
      obtain ⟨Q, hQ⟩ : ∃ Q, Q = partN leaf x 0 n := ⟨_, rfl⟩
      have hpart := node_part leaf ev kv dv x 0 n hx (Nat.zero_le _) (by omega) (by omega)
      rw [← hQ] at hpart hs
      ((with_reducible apply o_callR (hs := hpart)); (case hargs => (repeat first | exact evs.nil | (apply evs.cons; case a => rfl))); (case hpre => exact fun w' hw' => ⟨rdw_ex (by (first | ((repeat (first | with_reducible exact Pull.head | with_reducible apply Pull.tail)); done) | (repeat (first | exact Pull.head | apply Pull.tail)))) hrE w' hw', rdw_ex (by (first | ((repeat (first | with_reducible exact Pull.head | with_reducible apply Pull.tail)); done) | (repeat (first | exact Pull.head | apply Pull.tail)))) hrK w' hw', rdw_ex (by (first | ((repeat (first | with_reducible exact Pull.head | with_reducible apply Pull.tail)); done) | (repeat (first | exact Pull.head | apply Pull.tail)))) hrD w' hw'⟩); (case hn => rfl))
      rintro r1 H1 ⟨u1, u2, u3, rfl, rfl⟩
      simp only [ownN]
      (try dsimp only [List.cons_append, List.nil_append])
      (refine Tri.shape (e := 100) (size := 8) (v := u1) (by (first | ((repeat (first | with_reducible exact Pull.head | with_reducible apply Pull.tail)); done) | (repeat (first | exact Pull.head | apply Pull.tail)))) ?_; rintro ⟨A1, c1, rfl⟩)
      (refine Tri.shape (e := 98) (size := 2) (v := u2) (by (first | ((repeat (first | with_reducible exact Pull.head | with_reducible apply Pull.tail)); done) | (repeat (first | exact Pull.head | apply Pull.tail)))) ?_; rintro ⟨A2, c2, rfl⟩)
      (refine Tri.shape (e := 3) (size := 1) (v := u3) (by (first | ((repeat (first | with_reducible exact Pull.head | with_reducible apply Pull.tail)); done) | (repeat (first | exact Pull.head | apply Pull.tail)))) ?_; rintro ⟨A3, c3, rfl⟩)
      ((with_reducible apply Tri.op); rfl)
      ((with_reducible apply o_litSl (ys := ndLL leaf (.slice A1 Q.E.length c1) (.slice A2 Q.K.length c2) (.slice A3 Q.D.length c3))); (case hp => (repeat first | exact pev.nil | (apply pev.cons; case a => rfl))); (case hm => rfl); (case hf => rfl); (case hn => rfl); intro vl)
      ((with_reducible apply Tri.op); rfl; (with_reducible apply o_assign); rfl; rfl; (with_reducible refine Tri.nil (Tri.thenN (Tri.ret (Tri.blockR (Tri.thenR ?_))))))
      (with_reducible apply Tri.noneM)
      refine Tri.joinS (e := 100) (size := 8) (v := .slice A1 Q.E.length c1) (by (first | ((repeat (first | with_reducible exact Pull.head | with_reducible apply Pull.tail)); done) | (repeat (first | exact Pull.head | apply Pull.tail)))) (by (first | ((repeat (first | with_reducible exact Pull.head | with_reducible apply Pull.tail)); done) | (repeat (first | exact Pull.head | apply Pull.tail)))) ?_
      refine Tri.joinS (e := 98) (size := 2) (v := .slice A2 Q.K.length c2) (by (first | ((repeat (first | with_reducible exact Pull.head | with_reducible apply Pull.tail)); done) | (repeat (first | exact Pull.head | apply Pull.tail)))) (by (first | ((repeat (first | with_reducible exact Pull.head | with_reducible apply Pull.tail)); done) | (repeat (first | exact Pull.head | apply Pull.tail)))) ?_
      refine Tri.joinS (e := 3) (size := 1) (v := .slice A3 Q.D.length c3) (by (first | ((repeat (first | with_reducible exact Pull.head | with_reducible apply Pull.tail)); done) | (repeat (first | exact Pull.head | apply Pull.tail)))) (by (first | ((repeat (first | with_reducible exact Pull.head | with_reducible apply Pull.tail)); done) | (repeat (first | exact Pull.head | apply Pull.tail)))) ?_
      ((with_reducible apply Tri.eqA (A := own 33 4 vl _ _) (B := own 33 4 vl 1 (NDL leaf [(.slice A1 Q.E.length c1, .slice A2 Q.K.length c2, .slice A3 Q.D.length c3)]))); (case p => (first | ((repeat (first | with_reducible exact Pull.head | with_reducible apply Pull.tail)); done) | (repeat (first | exact Pull.head | apply Pull.tail)))); (case e => rfl))
      ((first | with_reducible apply Tri.fin | with_reducible apply Tri.finN); (case hr => rfl); (case h => (repeat (first | exact ResL.nil | (apply ResL.cons; (case a => (first | exact Res1.tmp rfl | (apply Res1.cell; rfl; (first | ((repeat (first | with_reducible exact Pull.head | with_reducible apply Pull.tail)); done) | (repeat (first | exact Pull.head | apply Pull.tail))); rfl) | (apply Res1.agg; rfl; (first | ((repeat (first | with_reducible exact Pull.head | with_reducible apply Pull.tail)); done) | (repeat (first | exact Pull.head | apply Pull.tail))); rfl; rfl))))))); (apply fin_R (Hn := [own 33 4 vl 1 (NDL leaf [(.slice A1 Q.E.length c1, .slice A2 Q.K.length c2, .slice A3 Q.D.length c3)]), manyRd ([] ++ [(.slice A1 Q.E.length c1, Q.E.length, EL Q.E)] ++ [(.slice A2 Q.K.length c2, Q.K.length, KL Q.K)] ++ [(.slice A3 Q.D.length c3, Q.D.length, NL Q.D)])])); (case p => (repeat (first | exact Pulls.nil | (apply Pulls.cons; (case a => (first | ((repeat (first | with_reducible exact Gv.Pull.head | with_reducible apply Gv.Pull.tail)); done) | (repeat (first | exact Gv.Pull.head | apply Gv.Pull.tail)))))))))
      exact ⟨[(.slice A1 Q.E.length c1, .slice A2 Q.K.length c2, .slice A3 Q.D.length c3)], (by rw [hs]; rfl), (fun v hv => by rw [List.mem_singleton.1 hv]; exact ⟨_, _, _, _, _, _, _, _, _, rfl⟩), (by rw [hs]; rfl)⟩
    · ((with_reducible refine Tri.skip (Tri.blockN (Tri.thenN (Tri.seq (Tri.region ?_))))); (with_reducible apply Tri.op); rfl; (with_reducible apply o_move); rfl; rfl; (with_reducible apply Tri.op); rfl; (with_reducible apply o_add64); rfl; rfl; rfl; (omega); (with_reducible apply Tri.op); rfl; (with_reducible apply o_quo); rfl; rfl; rfl; (omega); (omega); (with_reducible apply Tri.op); rfl; (with_reducible apply o_assign); rfl; rfl; (with_reducible refine Tri.nil (Tri.thenN (Tri.seq ?_))))
      have hn1 : mostN leaf < n := by omega
      obtain ⟨m, rfl⟩ : ∃ m, f = m + 1 := ⟨f - 1, by omega⟩
      obtain ⟨hh, hhd⟩ : ∃ hh, hh = (n + 1) / 2 := ⟨_, rfl⟩
      have hs : splN leaf (m + 1 + 1) x = splN leaf (m + 1) (partN leaf x 0 hh) ++ splN leaf (m + 1) (partN leaf x hh n) := by rw [splN, if_neg (by omega), if_neg (by omega), hhd, hn]
      have z1 : szN leaf (partN leaf x 0 hh) = hh - 0 := partN_sz (by omega)
      have z2 : szN leaf (partN leaf x hh n) = n - hh := partN_sz (by omega)
      have o1 : okN leaf (partN leaf x 0 hh) := partN_ok hx (by omega)
      have o2 : okN leaf (partN leaf x hh n) := partN_ok hx (by omega)
      have hpart1 := node_part leaf ev kv dv x 0 hh hx (Nat.zero_le _) (by omega) (by omega)
      have hpart2 := node_part leaf ev kv dv x hh n hx (by omega) (by omega) (by omega)
      have b1' := splN_len (leaf := leaf) (m + 1) (partN leaf x 0 hh)
      have b2' := splN_len (leaf := leaf) (m + 1) (partN leaf x hh n)
      have ih1 := fun e k d => ih m (by omega) (partN leaf x 0 hh) e k d o1 (by omega) (by omega)
      have ih2 := fun e k d => ih m (by omega) (partN leaf x hh n) e k d o2 (by omega) (by omega)
      obtain ⟨Q1, hQ1⟩ : ∃ Q, Q = partN leaf x 0 hh := ⟨_, rfl⟩
      obtain ⟨Q2, hQ2⟩ : ∃ Q, Q = partN leaf x hh n := ⟨_, rfl⟩
      rw [← hQ1] at hpart1 hs b1' ih1 z1
      rw [← hQ2] at hpart2 hs b2' ih2 z2
      ((with_reducible apply Tri.seti 5 ((hh : Int))); (case h => rfl); (case hi => omega))
      ((first | with_reducible apply Tri.mix [blk b1 33 (ndLL leaf ev kv dv), Ex (hp w)] | ((with_reducible apply TriR.mix [blk b1 33 (ndLL leaf ev kv dv), Ex (hp w)]); (case hnd => rfl))); (case p => (repeat (first | exact Pulls.nil | (apply Pulls.cons; (case a => (first | ((repeat (first | with_reducible exact Gv.Pull.head | with_reducible apply Gv.Pull.tail)); done) | (repeat (first | exact Gv.Pull.head | apply Gv.Pull.tail)))))))); (dsimp only [List.length]))
      ((first | ((with_reducible apply TriM.q 0); (case ho => rfl); (case hg => rfl)) | ((with_reducible apply TriM.qYes 0); (case ho => rfl); (case hg => rfl); (case hyl => rfl); (case hb => with_reducible rfl))); (case hB => kernel_rfl); (case hd => rfl); (case hn => rfl); (case h => (intro F K hK; ((with_reducible apply o_loadAll (cs := ndLL leaf ev kv dv)); (case hx => rfl); (case p => exact (by (first | ((repeat (first | with_reducible exact Pull.head | with_reducible apply Pull.tail)); done) | (repeat (first | exact Pull.head | apply Pull.tail))))); (case hl => rfl); (case hn => rfl)); exact hK)))
      ((first | ((with_reducible apply TriM.q 1); rfl; rfl) | ((with_reducible apply TriM.qYes 1); rfl; rfl; rfl; with_reducible rfl)); kernel_rfl; rfl; rfl; (intro F K hK; (with_reducible apply o_move); rfl; rfl; exact hK))
      ((first | ((with_reducible apply TriM.q 4); (case ho => rfl); (case hg => rfl)) | ((with_reducible apply TriM.qYes 4); (case ho => rfl); (case hg => rfl); (case hyl => rfl); (case hb => with_reducible rfl))); (case hB => kernel_rfl); (case hd => rfl); (case hn => rfl); (case h => (intro F K hK; ((with_reducible apply o_loadAll (cs := ndLL leaf ev kv dv)); (case hx => rfl); (case p => exact (by (first | ((repeat (first | with_reducible exact Pull.head | with_reducible apply Pull.tail)); done) | (repeat (first | exact Pull.head | apply Pull.tail))))); (case hl => rfl); (case hn => rfl)); exact hK)))
      ((first | ((with_reducible apply TriM.q 5); rfl; rfl) | ((with_reducible apply TriM.qYes 5); rfl; rfl; rfl; with_reducible rfl)); kernel_rfl; rfl; rfl; (intro F K hK; (with_reducible apply o_move); rfl; rfl; exact hK); (first | ((with_reducible apply TriM.q 6); rfl; rfl) | ((with_reducible apply TriM.qYes 6); rfl; rfl; rfl; with_reducible rfl)); kernel_rfl; rfl; rfl; (intro F K hK; (with_reducible apply o_move); rfl; rfl; exact hK))
      ((with_reducible apply TriM.a 2); (case ho => rfl); (case hg => rfl); (case hr => kernel_rfl); (try dsimp only [List.cons_append, List.nil_append]))
      ((with_reducible apply o_callR (hs := hpart1)); (case hargs => (repeat first | exact evs.nil | (apply evs.cons; case a => rfl))); (case hpre => exact fun w' hw' => ⟨rdw_ex (by (first | ((repeat (first | with_reducible exact Pull.head | with_reducible apply Pull.tail)); done) | (repeat (first | exact Pull.head | apply Pull.tail)))) hrE w' hw', rdw_ex (by (first | ((repeat (first | with_reducible exact Pull.head | with_reducible apply Pull.tail)); done) | (repeat (first | exact Pull.head | apply Pull.tail)))) hrK w' hw', rdw_ex (by (first | ((repeat (first | with_reducible exact Pull.head | with_reducible apply Pull.tail)); done) | (repeat (first | exact Pull.head | apply Pull.tail)))) hrD w' hw'⟩); (case hn => rfl))
      rintro r1 H1 ⟨u1, u2, u3, rfl, rfl⟩
      simp only [ownN]
      (try dsimp only [List.cons_append, List.nil_append])
      ((with_reducible apply TriM.back); (case p => (repeat (first | exact Pulls.nil | (apply Pulls.cons; (case a => (first | ((repeat (first | with_reducible exact Gv.Pull.head | with_reducible apply Gv.Pull.tail)); done) | (repeat (first | exact Gv.Pull.head | apply Gv.Pull.tail)))))))))
      ((with_reducible apply TriM.a 3); (case ho => rfl); (case hg => rfl); (case hr => kernel_rfl); (try dsimp only [List.cons_append, List.nil_append]))
      ((with_reducible apply o_callR (hs := ih1 u1 u2 u3)); (case hargs => (repeat first | exact evs.nil | (apply evs.cons; case a => rfl))); (case hpre => exact fun w' hw' => ⟨rdw_own (v := u1) (by (first | ((repeat (first | with_reducible exact Pull.head | with_reducible apply Pull.tail)); done) | (repeat (first | exact Pull.head | apply Pull.tail)))) w' hw', rdw_own (v := u2) (by (first | ((repeat (first | with_reducible exact Pull.head | with_reducible apply Pull.tail)); done) | (repeat (first | exact Pull.head | apply Pull.tail)))) w' hw', rdw_own (v := u3) (by (first | ((repeat (first | with_reducible exact Pull.head | with_reducible apply Pull.tail)); done) | (repeat (first | exact Pull.head | apply Pull.tail)))) w' hw'⟩); (case hn => rfl))
      rintro r2 H2 ⟨V1, hV1, hW1, rfl⟩
      (try dsimp only [List.cons_append, List.nil_append])
      ((with_reducible apply TriM.back); (case p => (repeat (first | exact Pulls.nil | (apply Pulls.cons; (case a => (first | ((repeat (first | with_reducible exact Gv.Pull.head | with_reducible apply Gv.Pull.tail)); done) | (repeat (first | exact Gv.Pull.head | apply Gv.Pull.tail)))))))))
      ((with_reducible apply TriM.a 7); (case ho => rfl); (case hg => rfl); (case hr => kernel_rfl); (try dsimp only [List.cons_append, List.nil_append]))
      ((with_reducible apply o_callR (hs := hpart2)); (case hargs => (repeat first | exact evs.nil | (apply evs.cons; case a => rfl))); (case hpre => exact fun w' hw' => ⟨rdw_ex (by (first | ((repeat (first | with_reducible exact Pull.head | with_reducible apply Pull.tail)); done) | (repeat (first | exact Pull.head | apply Pull.tail)))) hrE w' hw', rdw_ex (by (first | ((repeat (first | with_reducible exact Pull.head | with_reducible apply Pull.tail)); done) | (repeat (first | exact Pull.head | apply Pull.tail)))) hrK w' hw', rdw_ex (by (first | ((repeat (first | with_reducible exact Pull.head | with_reducible apply Pull.tail)); done) | (repeat (first | exact Pull.head | apply Pull.tail)))) hrD w' hw'⟩); (case hn => rfl))
      rintro r3 H3 ⟨u4, u5, u6, rfl, rfl⟩
      simp only [ownN]
      (try dsimp only [List.cons_append, List.nil_append])
      ((with_reducible apply TriM.back); (case p => (repeat (first | exact Pulls.nil | (apply Pulls.cons; (case a => (first | ((repeat (first | with_reducible exact Gv.Pull.head | with_reducible apply Gv.Pull.tail)); done) | (repeat (first | exact Gv.Pull.head | apply Gv.Pull.tail)))))))))
      ((with_reducible apply TriM.a 8); (case ho => rfl); (case hg => rfl); (case hr => kernel_rfl); (try dsimp only [List.cons_append, List.nil_append]))
      ((with_reducible apply o_callR (hs := ih2 u4 u5 u6)); (case hargs => (repeat first | exact evs.nil | (apply evs.cons; case a => rfl))); (case hpre => exact fun w' hw' => ⟨rdw_own (v := u4) (by (first | ((repeat (first | with_reducible exact Pull.head | with_reducible apply Pull.tail)); done) | (repeat (first | exact Pull.head | apply Pull.tail)))) w' hw', rdw_own (v := u5) (by (first | ((repeat (first | with_reducible exact Pull.head | with_reducible apply Pull.tail)); done) | (repeat (first | exact Pull.head | apply Pull.tail)))) w' hw', rdw_own (v := u6) (by (first | ((repeat (first | with_reducible exact Pull.head | with_reducible apply Pull.tail)); done) | (repeat (first | exact Pull.head | apply Pull.tail)))) w' hw'⟩); (case hn => rfl))
      rintro r4 H4 ⟨V2, hV2, hW2, rfl⟩
      (try dsimp only [List.cons_append, List.nil_append])
      ((with_reducible apply TriM.back); (case p => (repeat (first | exact Pulls.nil | (apply Pulls.cons; (case a => (first | ((repeat (first | with_reducible exact Gv.Pull.head | with_reducible apply Gv.Pull.tail)); done) | (repeat (first | exact Gv.Pull.head | apply Gv.Pull.tail)))))))))
      ((with_reducible apply TriM.a 9); (case ho => rfl); (case hg => rfl); (case hr => kernel_rfl); (try dsimp only [List.cons_append, List.nil_append]))
      ((with_reducible apply o_append); (case hx => rfl); (case hy => rfl); (case p => (first | ((repeat (first | with_reducible exact Pull.head | with_reducible apply Pull.tail)); done) | (repeat (first | exact Pull.head | apply Pull.tail)))); (case hr => exact rdw_own (v := r4) (by (first | ((repeat (first | with_reducible exact Pull.head | with_reducible apply Pull.tail)); done) | (repeat (first | exact Pull.head | apply Pull.tail))))); (case hl => exact NDL_len leaf V2); (case h1 => exact NDL_one hW2); (case hb => omega); (case hn => rfl))
      intro r5
      ((with_reducible apply TriM.back); (case p => (repeat (first | exact Pulls.nil | (apply Pulls.cons; (case a => (first | ((repeat (first | with_reducible exact Gv.Pull.head | with_reducible apply Gv.Pull.tail)); done) | (repeat (first | exact Gv.Pull.head | apply Gv.Pull.tail)))))))))
      ((first | ((with_reducible apply TriM.q 10); rfl; rfl) | ((with_reducible apply TriM.qYes 10); rfl; rfl; rfl; with_reducible rfl)); kernel_rfl; rfl; rfl; (intro F K hK; (with_reducible apply o_assign); rfl; rfl; exact hK))
      ((with_reducible apply TriM.nil); (case hr => kernel_rfl); (try dsimp only [List.cons_append, List.nil_append]))
      ((with_reducible refine Tri.thenN (Tri.ret ?_)))
      refine Tri.joinM (l1 := RDS V1 (splN leaf (m + 1) Q1)) (l2 := RDS V2 (splN leaf (m + 1) Q2)) (by (first | ((repeat (first | with_reducible exact Pull.head | with_reducible apply Pull.tail)); done) | (repeat (first | exact Pull.head | apply Pull.tail)))) (by (first | ((repeat (first | with_reducible exact Pull.head | with_reducible apply Pull.tail)); done) | (repeat (first | exact Pull.head | apply Pull.tail)))) ?_
      ((with_reducible apply Tri.eqA (A := own 33 4 r5 _ _) (B := own 33 4 r5 (V1 ++ V2).length (NDL leaf (V1 ++ V2)))); (case p => (first | ((repeat (first | with_reducible exact Pull.head | with_reducible apply Pull.tail)); done) | (repeat (first | exact Pull.head | apply Pull.tail)))); (case e => (rw [List.length_append, NDL_app])))
      ((first | with_reducible apply Tri.fin | with_reducible apply Tri.finN); (case hr => rfl); (case h => (repeat (first | exact ResL.nil | (apply ResL.cons; (case a => (first | exact Res1.tmp rfl | (apply Res1.cell; rfl; (first | ((repeat (first | with_reducible exact Pull.head | with_reducible apply Pull.tail)); done) | (repeat (first | exact Pull.head | apply Pull.tail))); rfl) | (apply Res1.agg; rfl; (first | ((repeat (first | with_reducible exact Pull.head | with_reducible apply Pull.tail)); done) | (repeat (first | exact Pull.head | apply Pull.tail))); rfl; rfl))))))); (apply fin_R (Hn := [own 33 4 r5 (V1 ++ V2).length (NDL leaf (V1 ++ V2)), manyRd (RDS V1 (splN leaf (m + 1) Q1) ++ RDS V2 (splN leaf (m + 1) Q2))])); (case p => (repeat (first | exact Pulls.nil | (apply Pulls.cons; (case a => (first | ((repeat (first | with_reducible exact Gv.Pull.head | with_reducible apply Gv.Pull.tail)); done) | (repeat (first | exact Gv.Pull.head | apply Gv.Pull.tail)))))))))
      exact ⟨V1 ++ V2, (by rw [hs, List.length_append, List.length_append, hV1, hV2]), (fun v hv => by rcases List.mem_append.1 hv with q | q; exact hW1 v q; exact hW2 v q), (by rw [hs, RDS_app _ _ _ _ hV1]; rfl)⟩
end Go.Proofs.Ytckdlfbbkemklaa
