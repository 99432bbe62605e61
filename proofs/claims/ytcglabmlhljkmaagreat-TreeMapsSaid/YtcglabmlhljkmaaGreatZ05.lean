/- Texts of this claim, put together: NjWalk3, NjPlain3, TvPlain, TvPlain2, TvPlain3, BmWalk4, WkPlain, TvPlain4, BtPlain, DvPlain2, LwPlain, WkPlain2, TvPlain10, TxPlain, WkPlain3, WkPlain4, TvPlain11, TvPlain6, TvPlain12, TvPlain7, TvPlain8, TvPlain13, TvPlain14, TfPlain, TvPlain15. -/
import Derived.Test.YtcglabmlhljkmaaGreatZ02
import Derived.Test.YtcglabmlhljkmaaGreatZ04
import Derived.Test.YtcglabmlhljkmaaGreatZ01
import Derived.Test.YtcglabmlhljkmaaGreatZ03
section
/- node: Split. -/
namespace Go.Proofs.YtcglabmlhljkmaaGreat
open Go Go.RowKit Go.Gv
set_option linter.unusedVariables false
set_option linter.unusedSimpArgs false

/-- the nodes of a list, and what they hold -/
def NDL (leaf : Bool) (VS : List (Value × Value × Value)) : List Value := VS.flatMap fun v => ndLL leaf v.1 v.2.1 v.2.2
def RDS : List (Value × Value × Value) → List ND3 → List (Value × Nat × List Value)
  | v :: VS, x :: xs => (v.1, x.E.length, EL x.E) :: (v.2.1, x.K.length, KL x.K) :: (v.2.2, x.D.length, NL x.D) :: RDS VS xs
  | _, _ => []
theorem RDS_app : ∀ (V1 V2 : List (Value × Value × Value)) (x1 x2 : List ND3), V1.length = x1.length → RDS (V1 ++ V2) (x1 ++ x2) = RDS V1 x1 ++ RDS V2 x2
  | [], V2, [], x2, _ => rfl
  | v :: V1, V2, x :: x1, x2, h => by
    rw [List.cons_append, List.cons_append, RDS, RDS, RDS_app V1 V2 x1 x2 (by simpa using h)]
    rfl
theorem NDL_app (leaf : Bool) (a b : List (Value × Value × Value)) : NDL leaf (a ++ b) = NDL leaf a ++ NDL leaf b := by simp [NDL]
theorem NDL_len (leaf : Bool) (a : List (Value × Value × Value)) : (NDL leaf a).length = a.length * 4 := flat_len (f := fun v : Value × Value × Value => ndLL leaf v.1 v.2.1 v.2.2) (fun _ => rfl) a
def ownX (leaf : Bool) (r : Value) (f : Nat) (x : ND3) (H : List Atom) : Prop := ∃ VS : List (Value × Value × Value), VS.length = (splN leaf f x).length ∧ (∀ v ∈ VS, ∃ A a B b C c i j k, v = (Value.slice A i a, Value.slice B j b, Value.slice C k c)) ∧ H = [own 125 4 r VS.length (NDL leaf VS), manyRd (RDS VS (splN leaf f x))]
theorem splN_len {leaf : Bool} : ∀ (f : Nat) (x : ND3), (splN leaf f x).length ≤ szN leaf x
  | 0, x => Nat.zero_le _
  | f + 1, x => by
    have hm := most_pos leaf
    rw [splN]
    split
    · exact Nat.zero_le _
    · split
      · show 1 ≤ _; omega
      · have a1 : (szN leaf x + 1) / 2 ≤ szN leaf x := by omega
        have s1 := partN_sz (leaf := leaf) (x := x) (lo := 0) a1
        have s2 := partN_sz (leaf := leaf) (x := x) (lo := (szN leaf x + 1) / 2) (Nat.le_refl _)
        have q1 := splN_len (leaf := leaf) f (partN leaf x 0 ((szN leaf x + 1) / 2))
        have q2 := splN_len (leaf := leaf) f (partN leaf x ((szN leaf x + 1) / 2) (szN leaf x))
        rw [List.length_append]; omega
theorem NDL_one {leaf : Bool} {VS : List (Value × Value × Value)} (h : ∀ v ∈ VS, ∃ A a B b C c i j k, v = (Value.slice A i a, Value.slice B j b, Value.slice C k c)) : ∀ y ∈ NDL leaf VS, y.oneCell' = true := by
  intro y hy
  obtain ⟨v, hv, hyv⟩ := List.mem_flatMap.1 hy
  obtain ⟨A, a, B, b, C, c, i, j, k, rfl⟩ := h v hv
  exact ndLL_one leaf A B C i a j b k c y hyv
/-- part, leaf or inner -/
theorem node_part (leaf : Bool) (ev kv dv : Value) (x : ND3) (lo hi : Nat) (hx : okN leaf x) (h1 : lo ≤ hi) (h2 : hi ≤ szN leaf x) (hb : hi ≤ 5000000) : SpecR Tryz.prog 115 #[ndW leaf ev kv dv, .int .i64 (lo : Int), .int .i64 (hi : Int)] (fun w => ndR w ev kv dv x.E x.K x.D) (fun r H' => ∃ u1 u2 u3, r = ndW leaf u1 u2 u3 ∧ H' = ownN u1 u2 u3 (partN leaf x lo hi).E (partN leaf x lo hi).K (partN leaf x lo hi).D) := by
  cases leaf
  · exact node_part_inner ev kv dv x.E x.K x.D lo hi h1 h2 hx.2 hb
  · exact node_part_leaf ev kv dv x.E x.K x.D lo hi h1 h2 hb
set_option maxHeartbeats 8000000 in
theorem node_Split (leaf : Bool) : ∀ (f : Nat) (x : ND3) (ev kv dv : Value), okN leaf x → szN leaf x ≤ f → szN leaf x ≤ 4500000 → SpecR Tryz.prog 69 #[ndW leaf ev kv dv] (fun w => ndR w ev kv dv x.E x.K x.D) (fun r H' => ownX leaf r (f + 1) x H') := by
  intro f
  induction f using Nat.strongRecOn with
  | ind f ih =>
  intro x ev kv dv hx hf hb
  refine SpecR.of (fun w hr => ?_)
  obtain ⟨hrE, hrK, hrD⟩ := id hr
  refine Calls.enter Tryz.func69 rfl rfl rfl (St.rebase w) ?_
  simp only [argSlots]
  refine Ws ?_
  (refine Wbx ?_; intro b1)
  refine Ws ?_
  refine Zla (cs := ndLL leaf ev kv dv) ?_ (hl := by rfl)
  refine Ws ?_
  refine Zcv (node_Size leaf ev kv dv x.E x.K x.D) ?_ (hpre := by exact fun w' hw' => ⟨rdw_ex Wp hrE w' hw', rdw_ex Wp hrK w' hw', rdw_ex Wp hrD w' hw'⟩)
  have hsz : sizeN leaf x.E x.D = szN leaf x := rfl
  rw [hsz]
  obtain ⟨n, hn⟩ : ∃ n, n = szN leaf x := ⟨_, rfl⟩
  rw [← hn] at hf hb ⊢
  refine Wo ?_
  ((first | with_reducible apply Tri.seqMeet (α := Unit) (Lx := fun _ => [(1, .pointer (some ⟨b1, 0, none⟩)), (2, .slice none 0 0), (3, .int .i64 (n : Int)), (4, .int .i64 ((mostN leaf : Nat) : Int))]) (Hx := fun _ => [blk b1 125 (ndLL leaf ev kv dv), Ex (hp w)]) | with_reducible apply TriR.seqMeet (α := Unit) (Lx := fun _ => [(1, .pointer (some ⟨b1, 0, none⟩)), (2, .slice none 0 0), (3, .int .i64 (n : Int)), (4, .int .i64 ((mostN leaf : Nat) : Int))]) (Hx := fun _ => [blk b1 125 (ndLL leaf ev kv dv), Ex (hp w)])); rotate_left; (rintro ⟨⟩; (try dsimp only)); rotate_left)
  · cases leaf
    · refine Ws ?_
      refine Wo ?_
      exact Zrc ()
    · refine Ws ?_
      refine Wo ?_
      exact Zrc ()
  have hm := most_pos leaf
  refine Ws ?_
  (refine Wcd ?_ ?_ <;> intro h0)
  · have h0' : n = 0 := by omega
    have hs : splN leaf (f + 1) x = [] := by rw [splN, if_pos (by omega)]
    refine Ws ?_
    (with_reducible apply Tri.ownNil 125 4)
    (with_reducible apply Tri.noneM)
    refine Zfn [own 125 4 (.slice none 0 0) 0 [], manyRd []] (hq := ?_)
    exact ⟨[], (by rw [hs]; rfl), (fun v hv => by cases hv), (by rw [hs]; rfl)⟩
  · refine Ws ?_
    (refine Wcd ?_ ?_ <;> intro h1)
    · have h1' : n ≤ mostN leaf := by omega
      have hs : splN leaf (f + 1) x = [partN leaf x 0 n] := by rw [splN, if_neg (by omega), if_pos (by omega), ← hn]
      refine Ws ?_
      refine Zla (cs := ndLL leaf ev kv dv) ?_ (hl := by rfl)
      refine Ws ?_
      obtain ⟨Q, hQ⟩ : ∃ Q, Q = partN leaf x 0 n := ⟨_, rfl⟩
      have hpart := node_part leaf ev kv dv x 0 n hx (Nat.zero_le _) (by omega) (by omega)
      rw [← hQ] at hpart hs
      refine Zcr hpart ?_ (hpre := by exact fun w' hw' => ⟨rdw_ex Wp hrE w' hw', rdw_ex Wp hrK w' hw', rdw_ex Wp hrD w' hw'⟩)
      rintro r1 H1 ⟨u1, u2, u3, rfl, rfl⟩
      simp only [ownN]
      refine Wap ?_
      (refine Tri.shape (e := 40) (size := 8) (v := u1) Wp ?_; rintro ⟨A1, c1, rfl⟩)
      (refine Tri.shape (e := 38) (size := 2) (v := u2) Wp ?_; rintro ⟨A2, c2, rfl⟩)
      (refine Tri.shape (e := 3) (size := 1) (v := u3) Wp ?_; rintro ⟨A3, c3, rfl⟩)
      refine Ws ?_
      (refine Zli (ys := ndLL leaf (.slice A1 Q.E.length c1) (.slice A2 Q.K.length c2) (.slice A3 Q.D.length c3)) ?_; intro vl)
      refine Ws ?_
      (with_reducible apply Tri.noneM)
      refine Tri.joinS (e := 40) (size := 8) (v := .slice A1 Q.E.length c1) Wp Wp ?_
      refine Tri.joinS (e := 38) (size := 2) (v := .slice A2 Q.K.length c2) Wp Wp ?_
      refine Tri.joinS (e := 3) (size := 1) (v := .slice A3 Q.D.length c3) Wp Wp ?_
      refine Zat (own 125 4 vl _ _) (own 125 4 vl 1 (NDL leaf [(.slice A1 Q.E.length c1, .slice A2 Q.K.length c2, .slice A3 Q.D.length c3)])) ?_
      refine Zfn [own 125 4 vl 1 (NDL leaf [(.slice A1 Q.E.length c1, .slice A2 Q.K.length c2, .slice A3 Q.D.length c3)]), manyRd ([] ++ [(.slice A1 Q.E.length c1, Q.E.length, EL Q.E)] ++ [(.slice A2 Q.K.length c2, Q.K.length, KL Q.K)] ++ [(.slice A3 Q.D.length c3, Q.D.length, NL Q.D)])] (hq := ?_)
      exact ⟨[(.slice A1 Q.E.length c1, .slice A2 Q.K.length c2, .slice A3 Q.D.length c3)], (by rw [hs]; rfl), (fun v hv => by rw [List.mem_singleton.1 hv]; exact ⟨_, _, _, _, _, _, _, _, _, rfl⟩), (by rw [hs]; rfl)⟩
    · refine Ws ?_
      have hn1 : mostN leaf < n := by omega
      obtain ⟨m, rfl⟩ : ∃ m, f = m + 1 := ⟨f - 1, by omega⟩
      obtain ⟨hh, hhd⟩ : ∃ hh, hh = (n + 1) / 2 := ⟨_, rfl⟩
      have hs : splN leaf (m + 1 + 1) x = splN leaf (m + 1) (partN leaf x 0 hh) ++ splN leaf (m + 1) (partN leaf x hh n) := by rw [splN, if_neg (by omega), if_neg (by omega), hhd, hn]
      have z1 : szN leaf (partN leaf x 0 hh) = hh - 0 := partN_sz (by omega)
      have z2 : szN leaf (partN leaf x hh n) = n - hh := partN_sz (by omega)
      have o1 : okN leaf (partN leaf x 0 hh) := partN_ok hx (by omega)
      have o2 : okN leaf (partN leaf x hh n) := partN_ok hx (by omega)
      have hpart1 := node_part leaf ev kv dv x 0 hh hx (Nat.zero_le _) (by omega) (by omega)
      have hpart2 := node_part leaf ev kv dv x hh n hx (by omega) (by omega) (by omega)
      have b1' := splN_len (leaf := leaf) (m + 1) (partN leaf x 0 hh)
      have b2' := splN_len (leaf := leaf) (m + 1) (partN leaf x hh n)
      have ih1 := fun e k d => ih m (by omega) (partN leaf x 0 hh) e k d o1 (by omega) (by omega)
      have ih2 := fun e k d => ih m (by omega) (partN leaf x hh n) e k d o2 (by omega) (by omega)
      obtain ⟨Q1, hQ1⟩ : ∃ Q, Q = partN leaf x 0 hh := ⟨_, rfl⟩
      obtain ⟨Q2, hQ2⟩ : ∃ Q, Q = partN leaf x hh n := ⟨_, rfl⟩
      rw [← hQ1] at hpart1 hs b1' ih1 z1
      rw [← hQ2] at hpart2 hs b2' ih2 z2
      refine Zi 5 (hh : Int) ?_ (hi := by omega)
      refine Wm [blk b1 125 (ndLL leaf ev kv dv), Ex (hp w)] ?_
      refine Zm 0 (h := fun _ _ x => by exact Zla (cs := ndLL leaf ev kv dv) x (hl := by rfl)) (k := ?_)
      refine Wq [1] ?_
      refine Zm 4 (h := fun _ _ x => by exact Zla (cs := ndLL leaf ev kv dv) x (hl := by rfl)) (k := ?_)
      refine Wq [5, 6] ?_
      refine ZA 2 ?_
      refine Zcr hpart1 ?_ (hpre := by exact fun w' hw' => ⟨rdw_ex Wp hrE w' hw', rdw_ex Wp hrK w' hw', rdw_ex Wp hrD w' hw'⟩)
      rintro r1 H1 ⟨u1, u2, u3, rfl, rfl⟩
      simp only [ownN]
      refine Wap ?_
      refine Zw ?_
      refine ZA 3 ?_
      refine Zcr (ih1 u1 u2 u3) ?_ (hpre := by exact fun w' hw' => ⟨rdw_own (v := u1) Wp w' hw', rdw_own (v := u2) Wp w' hw', rdw_own (v := u3) Wp w' hw'⟩)
      rintro r2 H2 ⟨V1, hV1, hW1, rfl⟩
      refine Wap ?_
      refine Zw ?_
      refine ZA 7 ?_
      refine Zcr hpart2 ?_ (hpre := by exact fun w' hw' => ⟨rdw_ex Wp hrE w' hw', rdw_ex Wp hrK w' hw', rdw_ex Wp hrD w' hw'⟩)
      rintro r3 H3 ⟨u4, u5, u6, rfl, rfl⟩
      simp only [ownN]
      refine Wap ?_
      refine Zw ?_
      refine ZA 8 ?_
      refine Zcr (ih2 u4 u5 u6) ?_ (hpre := by exact fun w' hw' => ⟨rdw_own (v := u4) Wp w' hw', rdw_own (v := u5) Wp w' hw', rdw_own (v := u6) Wp w' hw'⟩)
      rintro r4 H4 ⟨V2, hV2, hW2, rfl⟩
      refine Wap ?_
      refine Zw ?_
      refine ZA 9 ?_
      refine Zap ?_ (hr := by exact rdw_own (v := r4) Wp) (hl := by exact NDL_len leaf V2) (h1 := by exact NDL_one hW2)
      intro r5
      refine Zw ?_
      refine Wq [10] ?_
      refine ZE ?_
      refine Ws ?_
      refine Tri.joinM (l1 := RDS V1 (splN leaf (m + 1) Q1)) (l2 := RDS V2 (splN leaf (m + 1) Q2)) Wp Wp ?_
      refine Zat (own 125 4 r5 _ _) (own 125 4 r5 (V1 ++ V2).length (NDL leaf (V1 ++ V2))) ?_ (e := by rw [List.length_append, NDL_app])
      refine Zfn [own 125 4 r5 (V1 ++ V2).length (NDL leaf (V1 ++ V2)), manyRd (RDS V1 (splN leaf (m + 1) Q1) ++ RDS V2 (splN leaf (m + 1) Q2))] (hq := ?_)
      exact ⟨V1 ++ V2, (by rw [hs, List.length_append, List.length_append, hV1, hV2]), (fun v hv => by rcases List.mem_append.1 hv with q | q; exact hW1 v q; exact hW2 v q), (by rw [hs, RDS_app _ _ _ _ hV1]; rfl)⟩
end Go.Proofs.YtcglabmlhljkmaaGreat
end
section
/- node: the parts of a node, one by one; Join in one. -/
namespace Go.Proofs.YtcglabmlhljkmaaGreat
open Go Go.RowKit Go.Gv
set_option linter.unusedVariables false
set_option linter.unusedSimpArgs false

theorem rds_at : ∀ (VS : List (Value × Value × Value)) (xs : List ND3) (i : Nat) (v : Value × Value × Value) (y : ND3), VS[i]? = some v → xs[i]? = some y →
    (v.1, y.E.length, EL y.E) ∈ RDS VS xs ∧ (v.2.1, y.K.length, KL y.K) ∈ RDS VS xs ∧ (v.2.2, y.D.length, NL y.D) ∈ RDS VS xs
  | [], _, _, _, _, h, _ => by simp at h
  | _ :: _, [], _, _, _, _, h => by simp at h
  | u :: VS, x :: xs, 0, v, y, h1, h2 => by
    simp at h1 h2
    subst h1; subst h2
    exact ⟨.head _, .tail _ (.head _), .tail _ (.tail _ (.head _))⟩
  | u :: VS, x :: xs, i + 1, v, y, h1, h2 => by
    obtain ⟨a, b, c⟩ := rds_at VS xs i v y (by simpa using h1) (by simpa using h2)
    exact ⟨.tail _ (.tail _ (.tail _ a)), .tail _ (.tail _ (.tail _ b)), .tail _ (.tail _ (.tail _ c))⟩
theorem NDL_at {leaf : Bool} : ∀ (VS : List (Value × Value × Value)) (i : Nat) (v : Value × Value × Value), VS[i]? = some v → ((NDL leaf VS).drop (i * 4)).take 4 = ndLL leaf v.1 v.2.1 v.2.2
  | [], _, _, h => by simp at h
  | u :: VS, 0, v, h => by simp at h; subst h; rfl
  | u :: VS, i + 1, v, h => by
    have : (NDL leaf (u :: VS)).drop ((i + 1) * 4) = (NDL leaf VS).drop (i * 4) := by
      show (ndLL leaf u.1 u.2.1 u.2.2 ++ NDL leaf VS).drop ((i + 1) * 4) = _
      rw [show (i + 1) * 4 = (ndLL leaf u.1 u.2.1 u.2.2).length + i * 4 by show _ = 4 + _; omega, List.drop_append, Nat.add_sub_cancel_left, List.drop_eq_nil_of_le (by omega), List.nil_append]
    rw [this]
    exact NDL_at VS i v (by simpa using h)
end Go.Proofs.YtcglabmlhljkmaaGreat
end
section
/- tree: views, in plain terms. -/
namespace Go.Proofs.YtcglabmlhljkmaaGreat
open Go Go.RowKit Go.Gv
set_option linter.unusedVariables false
set_option linter.unusedSimpArgs false

/-- a view: its disk, its generation, which pages are in use, and which were -/
structure VS where
  S : DS
  gen : Nat
  m : BM
  old : BM
def kindN (leaf : Bool) : UInt8 := if leaf then 76 else 73
/-- a node that is read -/
def rdN (S : DS) (a : Int) (leaf : Bool) : GOT := if (rdPg S a (kindN leaf)).2 = 0 then getN leaf (rdPg S a (kindN leaf)).1.b else ⟨false, [], [], [], (rdPg S a (kindN leaf)).2⟩
/-- a node that is written -/
def wrN (v : VS) (leaf : Bool) (x : ND3) : VS × Int × Nat :=
  if rightN leaf x.E x.K x.D = false then (v, 0, 1)
  else if (takeM v.m v.old 1).2.2 ≠ 0 then (v, 0, (takeM v.m v.old 1).2.2)
  else (⟨(wrPg v.S ⟨kindN leaf, (takeM v.m v.old 1).2.1, v.gen, putN leaf x.E x.K x.D⟩).1, v.gen, (takeM v.m v.old 1).1, v.old⟩, (takeM v.m v.old 1).2.1, (wrPg v.S ⟨kindN leaf, (takeM v.m v.old 1).2.1, v.gen, putN leaf x.E x.K x.D⟩).2)
/-- what is asked of a view -/
structure VS.ok (v : VS) : Prop where
  S : v.S.ok
  g : v.gen < 18446744073709551616
  m : v.m.u.length = 512
  o : v.old.u.length = 512
def viewL (d : Nat) (v : VS) : List Value := tabL ++ (.pointer (some ⟨d, 0, none⟩) :: .int .u64 (v.gen : Int) :: (bmL v.m ++ bmL v.old))
theorem bmL_len {m : BM} (h : m.u.length = 512) : (bmL m).length = 513 := by simp [bmL, h]
theorem viewL_len {d : Nat} {v : VS} (h : v.ok) : (viewL d v).length = 1284 := by
  simp only [viewL, List.length_append, List.length_cons, tabL_length, bmL_len h.m, bmL_len h.o]
theorem viewL_tab (d : Nat) (v : VS) : ((viewL d v).drop (0 + 0)).take 256 = tabL := by
  rw [List.drop_zero, viewL, List.take_left' tabL_length]
theorem viewL_at {d : Nat} {v : VS} (i : Nat) : (viewL d v)[256 + i]? = (Value.pointer (some ⟨d, 0, none⟩) :: .int .u64 (v.gen : Int) :: (bmL v.m ++ bmL v.old))[i]? := by
  rw [viewL, List.getElem?_append_right (by rw [tabL_length]; omega), tabL_length, Nat.add_sub_cancel_left]
theorem viewL_d (d : Nat) (v : VS) : (viewL d v)[0 + 256]? = some (.pointer (some ⟨d, 0, none⟩)) := viewL_at 0
theorem viewL_g (d : Nat) (v : VS) : (viewL d v)[0 + 257]? = some (.int .u64 (v.gen : Int)) := viewL_at 1
theorem viewL_drop (d : Nat) (v : VS) (i : Nat) : (viewL d v).drop (256 + i) = (Value.pointer (some ⟨d, 0, none⟩) :: .int .u64 (v.gen : Int) :: (bmL v.m ++ bmL v.old)).drop i := by
  rw [viewL, List.drop_append, List.drop_eq_nil_of_le (by rw [tabL_length]; omega), tabL_length, Nat.add_sub_cancel_left, List.nil_append]
theorem viewL_m {d : Nat} {v : VS} (h : v.ok) : ((viewL d v).drop (0 + 258)).take 513 = bmL v.m := by
  rw [show 0 + 258 = 256 + 2 by omega, viewL_drop]
  show (bmL v.m ++ bmL v.old).take 513 = _
  rw [List.take_left' (bmL_len h.m)]
theorem viewL_o {d : Nat} {v : VS} (h : v.ok) : ((viewL d v).drop (0 + 771)).take 513 = bmL v.old := by
  rw [show 0 + 771 = 256 + (2 + 513) by omega, viewL_drop]
  show ((bmL v.m ++ bmL v.old).drop 513).take 513 = _
  rw [List.drop_append, List.drop_eq_nil_of_le (by rw [bmL_len h.m]; omega), bmL_len h.m, Nat.sub_self, List.drop_zero, List.nil_append, List.take_of_length_le (by rw [bmL_len h.o]; omega)]
theorem viewL_set {d : Nat} {v : VS} (h : v.ok) (m' : BM) (S' : DS) : (viewL d v).take (0 + 258) ++ bmL m' ++ (viewL d v).drop (0 + 258 + 513) = viewL d ⟨S', v.gen, m', v.old⟩ := by
  have e1 : (viewL d v).take (0 + 258) = tabL ++ [.pointer (some ⟨d, 0, none⟩), .int .u64 (v.gen : Int)] := by
    rw [viewL, List.take_append, tabL_length, List.take_of_length_le (by rw [tabL_length]; omega)]
    rfl
  have e2 : (viewL d v).drop (0 + 258 + 513) = bmL v.old := by
    rw [show 0 + 258 + 513 = 256 + (2 + 513) by omega, viewL_drop]
    show (bmL v.m ++ bmL v.old).drop 513 = _
    rw [List.drop_append, List.drop_eq_nil_of_le (by rw [bmL_len h.m]; omega), bmL_len h.m, Nat.sub_self, List.drop_zero, List.nil_append]
  rw [e1, e2, viewL]
  simp only [List.append_assoc, List.cons_append, List.nil_append]
theorem wrPg_ok {S : DS} (h : S.ok) (q : PG) : (wrPg S q).1.ok := by
  rw [wrPg]; split
  · exact DS.wrs_ok _ _ h
  · exact h
theorem wrN_ok {v : VS} (h : v.ok) (leaf : Bool) (x : ND3) : (wrN v leaf x).1.ok := by
  rw [wrN]; split
  · exact h
  · split
    · exact h
    · exact ⟨wrPg_ok h.S _, h.g, takeM_length _ _ _ h.m, h.o⟩
theorem wrPg_len (S : DS) (q : PG) : (wrPg S q).1.W.length ≤ S.W.length + 4 := by
  rw [wrPg]; split
  · have := (DS.wrs_len (secs (putP q) 4) S (q.a * 4)).1
    rw [secs_length] at this
    exact this
  · exact Nat.le_add_right _ _
theorem wrN_len (v : VS) (leaf : Bool) (x : ND3) : (wrN v leaf x).1.S.W.length ≤ v.S.W.length + 4 := by
  rw [wrN]; split
  · exact Nat.le_add_right _ _
  · split
    · exact Nat.le_add_right _ _
    · exact wrPg_len _ _
end Go.Proofs.YtcglabmlhljkmaaGreat
end
section
/- tree: nodes that are written one by one, and the node above them, in plain terms. -/
namespace Go.Proofs.YtcglabmlhljkmaaGreat
open Go Go.RowKit Go.Gv
set_option linter.unusedVariables false
set_option linter.unusedSimpArgs false

/-- nodes that are written one by one: the view, where they stand, and the error at which it ended -/
def unGo (leaf : Bool) : VS → List ND3 → VS × List Int × Nat
  | v, [] => (v, [], 0)
  | v, x :: xs => if (wrN v leaf x).2.2 ≠ 0 then ((wrN v leaf x).1, [], (wrN v leaf x).2.2)
    else ((unGo leaf (wrN v leaf x).1 xs).1, (wrN v leaf x).2.1 :: (unGo leaf (wrN v leaf x).1 xs).2.1, (unGo leaf (wrN v leaf x).1 xs).2.2)
def least3 (leaf : Bool) (x : ND3) : KEY := leastN leaf x.E x.K
theorem unGo_snoc (leaf : Bool) : ∀ (xs : List ND3) (v : VS) (x : ND3), (unGo leaf v xs).2.2 = 0 →
    (unGo leaf v (xs ++ [x])).1 = (wrN (unGo leaf v xs).1 leaf x).1 ∧ (unGo leaf v (xs ++ [x])).2.2 = (wrN (unGo leaf v xs).1 leaf x).2.2 ∧
    ((wrN (unGo leaf v xs).1 leaf x).2.2 = 0 → (unGo leaf v (xs ++ [x])).2.1 = (unGo leaf v xs).2.1 ++ [(wrN (unGo leaf v xs).1 leaf x).2.1])
  | [], v, x, _ => by
    simp only [List.nil_append, unGo]
    split
    · rename_i h; exact ⟨rfl, rfl, fun q => absurd q h⟩
    · rename_i h
      have h' : (wrN v leaf x).2.2 = 0 := by omega
      exact ⟨rfl, h'.symm, fun _ => rfl⟩
  | y :: xs, v, x, h => by
    rw [unGo] at h
    split at h
    · rename_i q; exact absurd h q
    · rename_i q
      obtain ⟨h1, h2, h3⟩ := unGo_snoc leaf xs (wrN v leaf y).1 x h
      have e : unGo leaf v (y :: xs) = ((unGo leaf (wrN v leaf y).1 xs).1, (wrN v leaf y).2.1 :: (unGo leaf (wrN v leaf y).1 xs).2.1, (unGo leaf (wrN v leaf y).1 xs).2.2) := by rw [unGo, if_neg q]
      have e2 : unGo leaf v (y :: xs ++ [x]) = ((unGo leaf (wrN v leaf y).1 (xs ++ [x])).1, (wrN v leaf y).2.1 :: (unGo leaf (wrN v leaf y).1 (xs ++ [x])).2.1, (unGo leaf (wrN v leaf y).1 (xs ++ [x])).2.2) := by rw [List.cons_append, unGo, if_neg q]
      rw [e, e2]
      exact ⟨h1, h2, fun q => by show _ :: _ = _ :: _ ++ _; rw [h3 q]; rfl⟩
theorem unGo_stop (leaf : Bool) : ∀ (xs : List ND3) (v : VS) (zs : List ND3), (unGo leaf v xs).2.2 ≠ 0 → unGo leaf v (xs ++ zs) = unGo leaf v xs
  | [], v, zs, h => absurd rfl h
  | y :: xs, v, zs, h => by
    rw [unGo] at h
    rw [List.cons_append, unGo, unGo]
    split at h
    · rename_i q; rw [if_pos q, if_pos q]
    · rename_i q; rw [if_neg q, if_neg q, unGo_stop leaf xs _ zs h]
theorem unGo_ok (leaf : Bool) : ∀ (xs : List ND3) {v : VS}, v.ok → (unGo leaf v xs).1.ok
  | [], v, h => h
  | x :: xs, v, h => by
    rw [unGo]; split
    · exact wrN_ok h leaf x
    · exact unGo_ok leaf xs (wrN_ok h leaf x)
theorem unGo_len (leaf : Bool) : ∀ (xs : List ND3) (v : VS), (unGo leaf v xs).1.S.W.length ≤ v.S.W.length + 4 * xs.length
  | [], v => Nat.le_add_right _ _
  | x :: xs, v => by
    have h1 := wrN_len v leaf x
    have h2 := unGo_len leaf xs (wrN v leaf x).1
    have e : (x :: xs).length = xs.length + 1 := rfl
    rw [unGo, e]; split
    · show (wrN v leaf x).1.S.W.length ≤ _; omega
    · show (unGo leaf (wrN v leaf x).1 xs).1.S.W.length ≤ _; omega
theorem unGo_cnt (leaf : Bool) : ∀ (xs : List ND3) (v : VS), (unGo leaf v xs).2.2 = 0 → (unGo leaf v xs).2.1.length = xs.length
  | [], v, _ => rfl
  | x :: xs, v, h => by
    rw [unGo] at h ⊢
    split at h
    · rename_i q; exact absurd h q
    · rename_i q
      rw [if_neg q]
      show (_ :: _).length = _
      rw [List.length_cons, unGo_cnt leaf xs _ h]; rfl
/-- the node above nodes that are written -/
def unN (leaf : Bool) (v : VS) (xs : List ND3) : VS × ND3 × Nat :=
  ((unGo leaf v xs).1, if (unGo leaf v xs).2.2 = 0 then ⟨[], xs.map (least3 leaf), (unGo leaf v xs).2.1⟩ else ⟨[], [], []⟩, (unGo leaf v xs).2.2)
theorem unN_cnt {leaf : Bool} {v : VS} {xs : List ND3} (h : (unN leaf v xs).2.2 = 0) : (unN leaf v xs).2.1.E = [] ∧ (unN leaf v xs).2.1.K.length = xs.length ∧ (unN leaf v xs).2.1.D.length = xs.length := by
  have h' : (unGo leaf v xs).2.2 = 0 := h
  simp only [unN, if_pos h']
  exact ⟨trivial, List.length_map _, unGo_cnt leaf xs v h'⟩
/-- the nodes of a level: sixteen children each -/
def chN (x : ND3) (j : Nat) : ND3 := ⟨[], cutL x.K (j * 16) (min (j * 16 + 16) x.D.length), cutL x.D (j * 16) (min (j * 16 + 16) x.D.length)⟩
def chunkN (x : ND3) : List ND3 := (List.range ((x.D.length + 15) / 16)).map (chN x)
/-- the root of a tree whose last level this is -/
def finN (leaf : Bool) (v : VS) (xs : List ND3) (h : Nat) : VS × (Int × Nat) × Nat :=
  if 5 < h then (v, (0, 0), 5) else ((wrN v leaf (xs.getD 0 ⟨[], [], []⟩)).1, ((wrN v leaf (xs.getD 0 ⟨[], [], []⟩)).2.1, h), (wrN v leaf (xs.getD 0 ⟨[], [], []⟩)).2.2)
/-- levels upon levels -/
def stN : Nat → Bool → VS → List ND3 → Nat → VS × (Int × Nat) × Nat
  | 0, leaf, v, xs, h => finN leaf v xs h
  | f + 1, leaf, v, xs, h => if xs.length ≤ 1 then finN leaf v xs h
    else if (unN leaf v xs).2.2 ≠ 0 then ((unN leaf v xs).1, (0, 0), (unN leaf v xs).2.2)
    else stN f false (unN leaf v xs).1 (chunkN (unN leaf v xs).2.1) (h + 1)
end Go.Proofs.YtcglabmlhljkmaaGreat
end
section
/- tree: the leaves of a tree that is loaded; loads, in plain terms. -/
namespace Go.Proofs.YtcglabmlhljkmaaGreat
open Go Go.RowKit Go.Gv
set_option linter.unusedVariables false
set_option linter.unusedSimpArgs false

def meetsE (a b : ENT) : Bool := decide (a.key.1 = b.key.1) && (decide (a.key.2 ≤ b.fin) && decide (b.key.2 ≤ a.fin))
theorem one_right {e : ENT} (h : entOk e = true) : rightN true [e] [] [] = true := by
  have h1 : entAt [e] 0 = true := by
    show (entOk e && (decide (0 = 0) || _)) = true
    rw [h]; rfl
  have h2 : entsTo [e] 1 = true := by
    show (entsTo [e] 0 && entAt [e] 0) = true
    rw [h1]; rfl
  show (decide (([] : List KEY).length = 0) && (decide (([] : List Int).length = 0) && (entsTo [e] 1 && betw 1 1 7))) = true
  rw [h2]; rfl
end Go.Proofs.YtcglabmlhljkmaaGreat
end
section
/- bitmap.Give, bitmap.Run; the known takes. -/
namespace Go.Proofs.YtcglabmlhljkmaaGreat
open Go Go.RowKit Go.Gv
set_option linter.unusedVariables false
set_option linter.unusedSimpArgs false

set_option maxHeartbeats 1000000 in
theorem bm_Give (m : BM) (at_ n : Int) (hm : m.u.length = 512) : SpecR Tryz.prog 83 #[bmV m, .int .i64 at_, .int .i64 n] (fun _ => True) (fun r H' => r = .tuple #[bmV (giveM m at_ n).1, .int .i64 ((giveM m at_ n).2 : Int)] ∧ H' = []) := by
  refine SpecR.of (fun w _ => ?_)
  refine Calls.enter Tryz.func83 rfl rfl rfl (St.rebase w) ?_
  simp only [argSlots]
  refine Ws ?_
  (refine Wbx ?_; intro bm)
  refine Ws ?_
  refine Zal fun br => ?_
  refine Ws ?_
  refine Zla ?_ (hl := by exact bmL_length m hm)
  refine Ws ?_
  refine Zcv (bm_Right m hm) ?_
  refine Ws ?_
  (refine ZcB 12 ?_ ?_ <;> intro h1)
  · refine Ws ?_
    refine ZSa ?_ (hl := by exact z513) (hc := by exact z513) (h1 := by exact z_one)
    refine Ws ?_
    exact Zfr (h := ResL.cons (Zra z513) (ResL.cons (Res1.tmp rfl) (ResL.nil))) (hq := by simp only [tupled]; (rw [giveM, h1]; simp only [Bool.true_or, if_true]; rw [bmV_zero]; rfl))
  · refine Ws ?_
    (refine ZcB 16 ?_ ?_ <;> intro h2)
    · refine Ws ?_
      refine ZSa ?_ (hl := by exact z513) (hc := by exact z513) (h1 := by exact z_one)
      refine Ws ?_
      exact Zfr (h := ResL.cons (Zra z513) (ResL.cons (Res1.tmp rfl) (ResL.nil))) (hq := by simp only [tupled]; (rw [giveM, h1, h2]; simp only [Bool.true_or, Bool.false_or, if_true]; rw [bmV_zero]; rfl))
    · refine Ws ?_
      (refine ZcB 20 ?_ ?_ <;> intro h3)
      · refine Ws ?_
        refine ZSa ?_ (hl := by exact z513) (hc := by exact z513) (h1 := by exact z_one)
        refine Ws ?_
        exact Zfr (h := ResL.cons (Zra z513) (ResL.cons (Res1.tmp rfl) (ResL.nil))) (hq := by simp only [tupled]; (rw [giveM, h1, h2, h3]; simp only [Bool.true_or, Bool.false_or, if_true]; rw [bmV_zero]; rfl))
      · refine Ws ?_
        (refine ZcB 26 ?_ ?_ <;> intro h4)
        · refine Ws ?_
          refine ZSa ?_ (hl := by exact z513) (hc := by exact z513) (h1 := by exact z_one)
          refine Ws ?_
          exact Zfr (h := ResL.cons (Zra z513) (ResL.cons (Res1.tmp rfl) (ResL.nil))) (hq := by simp only [tupled]; (rw [giveM, h1, h2, h3, h4]; simp only [Bool.true_or, Bool.false_or, if_true]; rw [bmV_zero]; rfl))
        · have hr := rightM_spec (m := m) (by cases hq : rightM m <;> simp [hq] at h1 ⊢)
          have h2' := of_decide_eq_false h2
          have h3' := of_decide_eq_false h3
          have h4' := of_decide_eq_false h4
          refine Ws ?_
          (refine Wcb ?_ ?_ <;> intro h5)
          · refine Ws ?_
            refine ZSa ?_ (hl := by exact z513) (hc := by exact z513) (h1 := by exact z_one)
            refine Ws ?_
            exact Zfr (h := ResL.cons (Zra z513) (ResL.cons (Res1.tmp rfl) (ResL.nil))) (hq := by simp only [tupled]; (rw [giveM, h1, h2, h3, h4, h5]; simp only [Bool.true_or, Bool.false_or, if_true]; rw [bmV_zero]; rfl))
          · have h5' := of_decide_eq_false h5
            have ht : giveM m at_ n = if allUsed m at_.toNat n.toNat then (⟨m.p, setFrom m.u false at_.toNat n.toNat⟩, 0) else (zeroM, 10) := by
              rw [giveM, h1, h2, h3, h4, h5]; simp only [Bool.false_or, Bool.false_eq_true, if_false]
            refine Ws ?_
            refine Zi 8 ((at_.toNat + 0 : Nat) : Int) ?_ (hi := by omega)
            refine Zat (blk bm _ _) (blk bm 60 (bmL ⟨m.p, setFrom m.u false at_.toNat 0⟩)) ?_
            (refine Wl (α := { x : Nat // x ≤ n.toNat ∧ ∀ j, j < x → useAt m.u (at_.toNat + j) = true }) (fun x => n.toNat - x.1) (fun x => [(1, .int .i64 at_), (2, .int .i64 n), (3, .pointer (some ⟨bm, 0, none⟩)), (6, .pointer (some ⟨br, 0, none⟩)), (8, .int .i64 ((at_.toNat + x.1 : Nat) : Int))]) (fun x => [blk bm 60 (bmL ⟨m.p, setFrom m.u false at_.toNat x.1⟩), blk br 60 ([.int .i64 0] ++ List.replicate 512 (.bool false)), Ex (hp w)]) ⟨0, Nat.zero_le _, fun j hj => absurd hj (Nat.not_lt_zero j)⟩ ?_; rintro ⟨x, hx, hu⟩ mx hmx; (try dsimp only at hmx ⊢))
            have hlen : (setFrom m.u false at_.toNat x).length = 512 := by rw [setFrom_length]; exact hm
            refine Ws ?_
            (refine Wcd ?_ ?_ <;> intro h6)
            · have hx' : x < n.toNat := by omega
              have hsame : useAt (setFrom m.u false at_.toNat x) (at_.toNat + x) = useAt m.u (at_.toNat + x) := by rw [useAt_setFrom _ _ _ _ _ (by omega), if_neg (by omega)]
              refine Ws ?_
              refine Zl ?_ (hv := by exact off_get ⟨m.p, setFrom m.u false at_.toNat x⟩ (at_.toNat + x) (by show _ < (setFrom m.u false at_.toNat x).length; omega))
              refine Ws ?_
              (refine Wcb ?_ ?_ <;> intro h7)
              · have hno : allUsed m at_.toNat n.toNat = false := by
                  cases hq : allUsed m at_.toNat n.toNat
                  · rfl
                  · have := List.all_eq_true.1 hq x (List.mem_range.2 hx')
                    simp only [hsame, this] at h7
                    cases h7
                refine Ws ?_
                refine ZSa ?_ (hl := by exact z513) (hc := by exact z513) (h1 := by exact z_one)
                refine Ws ?_
                exact Zfr (h := ResL.cons (Zra z513) (ResL.cons (Res1.tmp rfl) (ResL.nil))) (hq := by simp only [tupled]; (rw [ht, hno, if_neg (by simp), bmV_zero]; rfl))
              · have hyes : useAt m.u (at_.toNat + x) = true := by
                  simp only [hsame] at h7
                  cases hq : useAt m.u (at_.toNat + x)
                  · rw [hq] at h7; cases h7
                  · rfl
                refine Ws ?_
                refine ZS ?_ (hi := by rw [bmL_length _ hlen]; omega)
                refine Zat (blk bm _ _) (blk bm 60 (bmL ⟨m.p, setFrom m.u false at_.toNat (x + 1)⟩)) ?_ (e := by rw [off_set]; rfl)
                refine Ws ?_
                exact Zag ⟨x + 1, by omega, fun j hj => if e : j = x then by rw [e]; exact hyes else hu j (by omega)⟩
            · have e : x = n.toNat := by omega
              subst e
              have hall : allUsed m at_.toNat n.toNat = true := List.all_eq_true.2 (fun j hj => hu j (List.mem_range.1 hj))
              refine Ws ?_
              refine Zla ?_ (hl := by exact bmL_length _ hlen)
              refine Ws ?_
              refine ZSa ?_ (hl := by exact bmL_length _ hlen) (hc := by exact z513) (h1 := by exact bmL_one _)
              refine Ws ?_
              exact Zfr (h := ResL.cons (Zra (bmL_length _ hlen)) (ResL.cons (Res1.tmp rfl) (ResL.nil))) (hq := by simp only [tupled]; (rw [ht, hall, if_pos rfl]; rfl))

end Go.Proofs.YtcglabmlhljkmaaGreat
end
section
/- walk: the entries below a node, and the nodes that are read for them, in plain terms. -/
namespace Go.Proofs.YtcglabmlhljkmaaGreat
open Go Go.RowKit Go.Gv
set_option linter.unusedVariables false
set_option linter.unusedSimpArgs false

/-- the entries below a node of that height -/
def wkE (S : DS) : Nat → Int → List ENT
  | 0, _ => []
  | h + 1, a => (rdN S a (decide (h = 0))).E ++ (rdN S a (decide (h = 0))).D.flatMap (wkE S h)
/-- how many nodes there are -/
def wkC (S : DS) : Nat → Int → Nat
  | 0, _ => 0
  | h + 1, a => 1 + ((rdN S a (decide (h = 0))).D.map (wkC S h)).sum
/-- how many nodes were read in a row of children when the k-th entry is told -/
def wkVL (E : Int → List ENT) (C : Int → Nat) (V : Int → Nat → Nat) : List Int → Nat → Nat
  | [], _ => 0
  | d :: ds, k => if k < (E d).length then V d k else C d + wkVL E C V ds (k - (E d).length)
/-- how many nodes were read when the k-th entry is told -/
def wkV (S : DS) : Nat → Int → Nat → Nat
  | 0, _, _ => 0
  | h + 1, a, k => 1 + if k < (rdN S a (decide (h = 0))).E.length then 0 else wkVL (wkE S h) (wkC S h) (wkV S h) (rdN S a (decide (h = 0))).D (k - (rdN S a (decide (h = 0))).E.length)
/-- all can be read -/
def wkG (S : DS) : Nat → Int → Prop
  | 0, _ => False
  | h + 1, a => (-1000000 ≤ a ∧ a ≤ 1000000) ∧ (rdN S a (decide (h = 0))).e = 0 ∧ (rdN S a (decide (h = 0))).E.length ≤ 1000 ∧ (rdN S a (decide (h = 0))).D.length ≤ 1000 ∧ ∀ k ∈ (rdN S a (decide (h = 0))).D, wkG S h k
end Go.Proofs.YtcglabmlhljkmaaGreat
end
section
/- tree: a page that is given back; an entry more, in plain terms. -/
namespace Go.Proofs.YtcglabmlhljkmaaGreat
open Go Go.RowKit Go.Gv
set_option linter.unusedVariables false
set_option linter.unusedSimpArgs false

/-- a view whose page is given back -/
def giN (v : VS) (a : Int) : VS × Nat := if (giveM v.m a 1).2 = 0 then (⟨v.S, v.gen, (giveM v.m a 1).1, v.old⟩, 0) else (v, (giveM v.m a 1).2)
theorem giN_ok {v : VS} (h : v.ok) (a : Int) : (giN v a).1.ok := by
  rw [giN]
  split
  · exact ⟨h.S, h.g, giveM_length _ _ _ h.m, h.o⟩
  · exact h
theorem giN_S (v : VS) (a : Int) : (giN v a).1.S = v.S := by rw [giN]; split <;> rfl
/-- which child of a node a key belongs to -/
def childGo (K : List KEY) (k : KEY) : Nat → Nat → Nat
  | 0, i => i
  | f + 1, i => if i + 1 < K.length ∧ lessK k (K.getD (i + 1) (0, 0)) = false then childGo K k f (i + 1) else i
def childN (K : List KEY) (k : KEY) : Nat := childGo K k K.length 0
/-- where a key belongs among entries -/
def idxGo (E : List ENT) (k : KEY) : Nat → Nat → Nat
  | 0, i => i
  | f + 1, i => if i < E.length then (if lessK k (E.getD i ent0).key = true then i else idxGo E k f (i + 1)) else E.length
def idxE (E : List ENT) (k : KEY) : Nat := idxGo E k (E.length + 1) 0
def splitN (leaf : Bool) (x : ND3) : List ND3 := splN leaf (szN leaf x + 1) x
/-- a node with others in some children's place -/
def rpN (leaf : Bool) (v : VS) (x : ND3) (i c : Nat) (xs : List ND3) : VS × List ND3 × Nat :=
  if (unN leaf v xs).2.2 = 0 then ((unN leaf v xs).1, splitN false ⟨x.E, x.K.take i ++ (unN leaf v xs).2.1.K ++ x.K.drop (i + c), x.D.take i ++ (unN leaf v xs).2.1.D ++ x.D.drop (i + c)⟩, 0)
  else ((unN leaf v xs).1, [], (unN leaf v xs).2.2)
/-- what is in a node's place, with an entry more -/
def inN : Nat → VS → Int → ENT → VS × List ND3 × Nat
  | 0, v, _, _ => (v, [], 0)
  | h + 1, v, a, x =>
    if (rdN v.S a (decide (h = 0))).e ≠ 0 then (v, [], (rdN v.S a (decide (h = 0))).e)
    else if (giN v a).2 ≠ 0 then ((giN v a).1, [], (giN v a).2)
    else if h = 0 then ((giN v a).1, splitN true ⟨(rdN v.S a true).E.take (idxE (rdN v.S a true).E x.key) ++ x :: (rdN v.S a true).E.drop (idxE (rdN v.S a true).E x.key), (rdN v.S a true).K, (rdN v.S a true).D⟩, 0)
    else if (inN h (giN v a).1 ((rdN v.S a false).D.getD (childN (rdN v.S a false).K x.key) 0) x).2.2 = 0 then
      rpN (decide (h = 1)) (inN h (giN v a).1 ((rdN v.S a false).D.getD (childN (rdN v.S a false).K x.key) 0) x).1 ⟨(rdN v.S a false).E, (rdN v.S a false).K, (rdN v.S a false).D⟩ (childN (rdN v.S a false).K x.key) 1 (inN h (giN v a).1 ((rdN v.S a false).D.getD (childN (rdN v.S a false).K x.key) 0) x).2.1
    else ((inN h (giN v a).1 ((rdN v.S a false).D.getD (childN (rdN v.S a false).K x.key) 0) x).1, [], (inN h (giN v a).1 ((rdN v.S a false).D.getD (childN (rdN v.S a false).K x.key) 0) x).2.2)
end Go.Proofs.YtcglabmlhljkmaaGreat
end
section
/- bitmap, one page at a time: plain laws. -/
namespace Go.Gv
set_option linter.unusedSimpArgs false
set_option linter.unusedVariables false

theorem useAt_new (k : Int) (j : Nat) : useAt (newM k).u j = decide (j < 2) := by
  unfold useAt
  show ([true, true] ++ List.replicate 510 false).getD j false = _
  rw [List.getD_eq_getElem?_getD, List.getElem?_append]
  split
  · rename_i h
    have : j = 0 ∨ j = 1 := by simp at h; omega
    rcases this with rfl | rfl <;> rfl
  · rename_i h
    simp at h
    rw [decide_eq_false (show ¬ j < 2 by omega), List.getElem?_replicate]
    split <;> rfl
theorem newM_p (k : Nat) (h : 8 ≤ k ∧ k ≤ 512) : (newM (k : Int)).p = (k : Int) := by
  show min (max (k : Int) 8) 512 = _
  omega
theorem free_new (k : Nat) (h : 8 ≤ k ∧ k ≤ 512) : ∀ K, freeTo (newM (k : Int)) K = min K k - 2
  | 0 => by simp [freeTo]
  | K + 1 => by
    rw [freeTo, free_new k h K, newM_p k h, useAt_new]
    by_cases h1 : K < k
    · by_cases h2 : K < 2
      · rw [decide_eq_true h2, if_neg (by simp)]; omega
      · rw [decide_eq_false h2, decide_eq_true (show (K : Int) < k by omega), if_pos (by simp)]; omega
    · rw [decide_eq_false (show ¬ (K : Int) < k by omega), if_neg (by simp)]; omega
theorem freeTo_far (p : Int) (u : List Bool) (j : Nat) (b : Bool) (hj : j < u.length) : ∀ K, K ≤ j → freeTo ⟨p, u.set j b⟩ K = freeTo ⟨p, u⟩ K
  | 0, _ => rfl
  | K + 1, h => by
    rw [freeTo, freeTo, freeTo_far p u j b hj K (by omega)]
    simp only [useAt_set u j K b hj, if_neg (show ¬ K = j by omega)]
theorem freeTo_take (p : Int) (u : List Bool) (j : Nat) (hj : j < u.length) (hp : (j : Int) < p) (hu : useAt u j = false) : ∀ K, j < K → freeTo ⟨p, u.set j true⟩ K + 1 = freeTo ⟨p, u⟩ K
  | 0, h => by omega
  | K + 1, h => by
    rw [freeTo, freeTo]
    by_cases e : K = j
    · subst e
      rw [freeTo_far p u K true hj K (Nat.le_refl _)]
      simp only [useAt_set u K K true hj, if_true, hu, decide_eq_true hp]
      simp
    · have ih := freeTo_take p u j hj hp hu K (by omega)
      simp only [useAt_set u j K true hj, if_neg e]
      omega
theorem freeTo_give (p : Int) (u : List Bool) (j : Nat) (hj : j < u.length) (hp : (j : Int) < p) (hu : useAt u j = true) : ∀ K, j < K → freeTo ⟨p, u.set j false⟩ K = freeTo ⟨p, u⟩ K + 1
  | 0, h => by omega
  | K + 1, h => by
    rw [freeTo, freeTo]
    by_cases e : K = j
    · subst e
      rw [freeTo_far p u K false hj K (Nat.le_refl _)]
      simp only [useAt_set u K K false hj, if_true, hu, decide_eq_true hp]
      simp
    · have ih := freeTo_give p u j hj hp hu K (by omega)
      simp only [useAt_set u j K false hj, if_neg e]
      omega

structure Inv (k : Nat) (m : BM) (had : List Nat) : Prop where
  len : m.u.length = 512
  p : m.p = (k : Int)
  use : ∀ j, useAt m.u j = true ↔ (j < 2 ∨ j ∈ had)
  rng : ∀ a ∈ had, 2 ≤ a ∧ a < k
  nodup : had.Nodup
  free : freeM m + 2 + had.length = k

theorem Inv.new (k : Nat) (h : 8 ≤ k ∧ k ≤ 512) : Inv k (newM k) [] :=
  ⟨newM_length _, newM_p k h, fun j => by rw [useAt_new]; simp, fun a ha => by simp at ha, List.nodup_nil, by
    show freeTo _ 512 + 2 + 0 = k
    rw [free_new k h]; omega⟩

theorem right_of {m : BM} (k : Nat) (h : 8 ≤ k ∧ k ≤ 512) (hp : m.p = (k : Int)) (h0 : ∀ j, j < 2 → useAt m.u j = true) (h1 : ∀ j, k ≤ j → useAt m.u j = false) : rightM m = true := by
  have hf : (List.range 512).all (fitAt m) = true := fit_all (fun j _ => by
    unfold fitAt
    rw [hp]
    by_cases h2 : j < 2
    · rw [decide_eq_true h2, h0 j h2, decide_eq_false (show ¬ ((k : Int) ≤ (j : Int)) by omega)]; rfl
    · by_cases h3 : k ≤ j
      · rw [decide_eq_false h2, h1 j h3]; simp
      · rw [decide_eq_false h2, decide_eq_false (show ¬ ((k : Int) ≤ (j : Int)) by omega)]; simp)
  rw [rightM, hf, hp, decide_eq_true (show (8 : Int) ≤ k by omega), decide_eq_true (show (k : Int) ≤ 512 by omega)]; rfl
theorem Inv.right {k : Nat} {m : BM} {had : List Nat} (i : Inv k m had) (h : 8 ≤ k ∧ k ≤ 512) : rightM m = true :=
  right_of k h i.p (fun j hj => (i.use j).2 (.inl hj)) (fun j hj => by
    cases hu : useAt m.u j
    · rfl
    · rcases (i.use j).1 hu with h2 | h2
      · omega
      · have := i.rng j h2; omega)
theorem new_right (k : Nat) (h : 8 ≤ k ∧ k ≤ 512) : rightM (newM k) = true := (Inv.new k h).right h

theorem Inv.give {k : Nat} {m : BM} {A B : List Nat} {x : Nat} (i : Inv k m (A ++ x :: B)) (h : 8 ≤ k ∧ k ≤ 512) :
    giveM m x 1 = (⟨m.p, m.u.set x false⟩, 0) ∧ Inv k ⟨m.p, m.u.set x false⟩ (A ++ B) := by
  have hx := i.rng x (by simp)
  have hxl : x < m.u.length := by rw [i.len]; omega
  have hux : useAt m.u x = true := (i.use x).2 (.inr (by simp))
  have hnd := i.nodup
  rw [List.nodup_append] at hnd
  obtain ⟨n1, n2, n3⟩ := hnd
  rw [List.nodup_cons] at n2
  constructor
  · have h1 : (!rightM m) = false := by rw [i.right h]; rfl
    have h6 : allUsed m (x : Int).toNat (1 : Int).toNat = true := List.all_eq_true.2 (fun j hj => by
      have : j = 0 := by simp at hj; omega
      subst this; simpa using hux)
    have hp := i.p
    rw [giveM, h1, h6, decide_eq_false (show ¬ (1 : Int) < 0 by omega), decide_eq_false (show ¬ (x : Int) < 2 by omega), decide_eq_false (show ¬ m.p < (x : Int) by omega), decide_eq_false (show ¬ m.p - (x : Int) < 1 by omega)]
    rfl
  · refine ⟨by simp [i.len], i.p, fun j => ?_, fun a ha => i.rng a (by simp at ha ⊢; rcases ha with h | h <;> simp [h]), ?_, ?_⟩
    · simp only [useAt_set _ _ _ _ hxl]
      by_cases e : j = x
      · subst e
        rw [if_pos rfl]
        constructor
        · intro h; cases h
        · rintro (h | h)
          · omega
          · simp at h
            rcases h with h | h
            · exact absurd rfl (n3 j h j (by simp))
            · exact absurd h n2.1
      · rw [if_neg e, i.use]
        simp [e]
    · rw [List.nodup_append]
      exact ⟨n1, n2.2, fun a ha b hb => n3 a ha b (by simp [hb])⟩
    · have := freeTo_give m.p m.u x hxl (by rw [i.p]; omega) hux 512 (by omega)
      have hf := i.free
      simp only [List.length_append, List.length_cons] at hf ⊢
      show freeTo _ 512 + 2 + _ = k
      rw [this]
      have : freeM m = freeTo ⟨m.p, m.u⟩ 512 := rfl
      omega

theorem both_new {k : Nat} {m : BM} {had : List Nat} (i : Inv k m had) (p : Nat) : bothAt m (newM k) p = useAt m.u p := by
  rw [bothAt, useAt_new]
  by_cases h : p < 2
  · rw [(i.use p).2 (.inl h)]; rfl
  · rw [decide_eq_false h, Bool.or_false]
theorem run_all (m o : BM) : ∀ i, (∀ p, p < i → bothAt m o p = true) → runTo m o i = 0
  | 0, _ => rfl
  | i + 1, h => by rw [runTo, h i (by omega), if_pos rfl]
theorem seek_none (m o : BM) : ∀ f i, (∀ p, p < i + f → bothAt m o p = true) → seek m o 1 f i = none
  | 0, _, _ => rfl
  | f + 1, i, h => by
    rw [seek, run_all m o (i + 1) (fun p hp => h p (by omega)), if_neg (by omega)]
    exact seek_none m o f (i + 1) (fun p hp => h p (by omega))
theorem seek_some (m o : BM) (t : Nat) (ht : bothAt m o t = false) (hb : ∀ p, p < t → bothAt m o p = true) : ∀ f i, i ≤ t → t < i + f → seek m o 1 f i = some t
  | 0, _, _, h => by omega
  | f + 1, i, h1, h2 => by
    by_cases e : i = t
    · subst e
      have hr : runTo m o (i + 1) = 1 := by rw [runTo, ht, if_neg (by simp), run_all m o i hb]
      rw [seek, hr, if_pos (show ((1 : Nat) : Int) = 1 from rfl)]
      rfl
    · rw [seek, run_all m o (i + 1) (fun p hp => hb p (by omega)), if_neg (by omega)]
      exact seek_some m o t ht hb f (i + 1) (by omega) (by omega)
theorem Inv.alike {k : Nat} {m : BM} {had : List Nat} (i : Inv k m had) (h : 8 ≤ k ∧ k ≤ 512) : alikeM m (newM k) = true := by
  rw [alikeM, i.right h, new_right k h, i.p, newM_p k h]; simp
theorem Inv.full {k : Nat} {m : BM} {had : List Nat} (i : Inv k m had) (h : 8 ≤ k ∧ k ≤ 512) (hu : ∀ p, 2 ≤ p → p < k → useAt m.u p = true) : takeM m (newM k) 1 = (zeroM, 0, 5) := by
  have hs : seek m (newM k) 1 m.p.toNat 0 = none := seek_none _ _ _ _ (fun p hp => by
    rw [both_new i]
    by_cases h2 : p < 2
    · exact (i.use p).2 (.inl h2)
    · exact hu p (by omega) (by have := i.p; omega))
  have h1 : (!alikeM m (newM k)) = false := by rw [i.alike h]; rfl
  rw [takeM, h1, hs]; rfl
theorem Inv.take {k : Nat} {m : BM} {had : List Nat} (i : Inv k m had) (h : 8 ≤ k ∧ k ≤ 512) (t : Nat) (ht : 2 ≤ t ∧ t < k) (hf : useAt m.u t = false) (hu : ∀ p, 2 ≤ p → p < t → useAt m.u p = true) :
    takeM m (newM k) 1 = (⟨m.p, m.u.set t true⟩, (t : Int), 0) ∧ Inv k ⟨m.p, m.u.set t true⟩ (had ++ [t]) := by
  have htl : t < m.u.length := by rw [i.len]; omega
  have hp := i.p
  constructor
  · have hs : seek m (newM k) 1 m.p.toNat 0 = some t := seek_some _ _ t (by rw [both_new i]; exact hf) (fun p hp => by
      rw [both_new i]
      by_cases h2 : p < 2
      · exact (i.use p).2 (.inl h2)
      · exact hu p (by omega) hp) _ _ (Nat.zero_le _) (by omega)
    have h1 : (!alikeM m (newM k)) = false := by rw [i.alike h]; rfl
    rw [takeM, h1, hs]; rfl
  · have hnot : t ∉ had := fun hm => by
      have := (i.use t).2 (.inr hm)
      rw [this] at hf; cases hf
    refine ⟨by simp [i.len], i.p, fun j => ?_, fun a ha => ?_, ?_, ?_⟩
    · simp only [useAt_set _ _ _ _ htl]
      by_cases e : j = t
      · subst e; simp
      · rw [if_neg e, i.use]; simp [e]
    · simp at ha
      rcases ha with ha | rfl
      · exact i.rng a ha
      · exact ht
    · rw [List.nodup_append]
      exact ⟨i.nodup, by simp, fun a ha b hb => by simp at hb; subst hb; intro e; subst e; exact hnot ha⟩
    · have := freeTo_take m.p m.u t htl (by rw [i.p]; omega) hf 512 (by omega)
      have hfr := i.free
      simp only [List.length_append, List.length_cons, List.length_nil]
      show freeTo _ 512 + 2 + _ = k
      have : freeM m = freeTo ⟨m.p, m.u⟩ 512 := rfl
      omega

end Go.Gv
end
section
/- Pages of a disk, in plain terms. -/
namespace Go.Proofs.YtcglabmlhljkmaaGreat
open Go Go.RowKit Go.Gv
set_option linter.unusedVariables false
set_option linter.unusedSimpArgs false

theorem seg_same (n : Nat) (A : List UInt8) (i : Nat) (b : List UInt8) (hi : i * n + n ≤ A.length) (hb : b.length = n) : ((putAt A (i * n) b).drop (i * n)).take n = b := by
  unfold putAt
  rw [List.append_assoc, List.drop_append_of_le_length (by rw [List.length_take]; omega), List.drop_of_length_le (by rw [List.length_take]; omega), List.nil_append, List.take_left' hb]
theorem seg_other (n : Nat) (A : List UInt8) (i j : Nat) (b : List UInt8) (hi : i * n + n ≤ A.length) (hb : b.length = n) (hj : j ≠ i) : ((putAt A (i * n) b).drop (j * n)).take n = (A.drop (j * n)).take n := by
  apply List.ext_getElem?
  intro k
  rw [List.getElem?_take, List.getElem?_take]
  split
  · rename_i hk
    rw [List.getElem?_drop, List.getElem?_drop]
    unfold putAt
    have hlt : (A.take (i * n)).length = i * n := by rw [List.length_take]; omega
    by_cases hji : j < i
    · have : j * n + k < i * n := by
        have := Nat.mul_le_mul_right n (show j + 1 ≤ i from hji)
        rw [Nat.add_mul] at this; omega
      rw [List.append_assoc, List.getElem?_append_left (by omega), List.getElem?_take, if_pos this]
    · have : i * n + n ≤ j * n + k := by
        have := Nat.mul_le_mul_right n (show i + 1 ≤ j by omega)
        rw [Nat.add_mul] at this; omega
      rw [List.getElem?_append_right (by rw [List.length_append]; omega), List.getElem?_drop, List.length_append, hlt, hb]
      congr 1; omega
  · rfl
theorem pgAt_same (A : List UInt8) (i : Nat) (b : List UInt8) (hi : i * 256 + 256 ≤ A.length) (hb : b.length = 256) : pgAt (putAt A (i * 256) b) i = b := seg_same 256 A i b hi hb
theorem pgAt_other (A : List UInt8) (i j : Nat) (b : List UInt8) (hi : i * 256 + 256 ≤ A.length) (hb : b.length = 256) (hj : j ≠ i) : pgAt (putAt A (i * 256) b) j = pgAt A j := seg_other 256 A i j b hi hb hj
/-- a disk with power -/
def DS.on (S : DS) : Prop := S.ok ∧ S.off = false ∧ S.till = -1
theorem DS.wrs_page {S : DS} (h : S.on) (a : Nat) (b : List UInt8) (hb : b.length = 256) (ha : a * 256 + 256 ≤ S.A.length) :
    (S.wrs ((a : Int) * 4) (secs b 4)).2 = 0 ∧ (S.wrs ((a : Int) * 4) (secs b 4)).1.on ∧ (S.wrs ((a : Int) * 4) (secs b 4)).1.V = putAt S.V (a * 256) b ∧ (S.wrs ((a : Int) * 4) (secs b 4)).1.A = S.A ∧ (S.wrs ((a : Int) * 4) (secs b 4)).1.W.length ≤ S.W.length + 4 := by
  have h1 := DS.wrs_V h.1 (a * 4) b h.2.1 h.2.2 4 (by omega) (by omega)
  have h2 := DS.wrs_len (secs b 4) S ((a : Int) * 4)
  have e : ((a * 4 : Nat) : Int) = (a : Int) * 4 := by omega
  rw [e] at h1
  rw [secs_length] at h2
  refine ⟨h1.1, ⟨DS.wrs_ok _ _ h.1, h1.2.1, h1.2.2.1⟩, ?_, h2.2, h2.1⟩
  rw [h1.2.2.2, show a * 4 * 64 = a * 256 by omega, List.take_of_length_le (by omega)]
theorem rdE_page {S : DS} (h : S.on) (a : Nat) (ha : a * 256 + 256 ≤ S.A.length) : rdE S ((a : Int) * 4) 4 = 0 := by
  have := rdE_of (S := S) (a := a * 4) h.2.1 4 (by omega)
  rwa [show ((a * 4 : Nat) : Int) = (a : Int) * 4 by omega] at this
theorem rdPg_on {S : DS} (h : S.on) (a : Nat) (ha : a * 256 + 256 ≤ S.A.length) (kind : UInt8) : rdPg S (a : Int) kind = if (getP (pgAt S.V a)).2 = 0 ∧ (getP (pgAt S.V a)).1.a = (a : Int) ∧ (getP (pgAt S.V a)).1.k = kind then getP (pgAt S.V a) else (zeroP, 3) := by
  rw [rdPg, rdE_page h a ha, if_neg (by simp)]; rfl
/-- an empty disk -/
def DS.new (k : Nat) : DS := ⟨List.replicate (k * 256) 0, [], false, -1⟩
theorem DS.new_on (k : Nat) (h : k ≤ 512) : (DS.new k).on := ⟨⟨by show (List.replicate _ _).length ≤ _; simp; omega, by show -1 ≤ (-1 : Int) ∧ (-1 : Int) ≤ _; omega, fun x hx => by cases hx⟩, rfl, rfl⟩
theorem DS.new_ok (k : Nat) (h : k ≤ 512) : (DS.new k).ok := (DS.new_on k h).1
theorem DS.new_len (k : Nat) : (DS.new k).A.length = k * 256 := List.length_replicate
theorem disk_NewD (k : Nat) (h : 8 ≤ k ∧ k ≤ 512) : SpecR Tryz.prog 28 #[.int .i64 (k : Int)] (fun _ => True) (fun r H' => ∃ p, r = .tuple #[.pointer (some ⟨p, 0, none⟩), .int .i64 0] ∧ H' = [DSK p (DS.new k)]) := by
  refine SpecR.conv (disk_New k h) (fun r H' hr => ?_)
  obtain ⟨p, a, rfl, rfl⟩ := hr
  exact ⟨_, ⟨p, rfl, rfl⟩, fun w0 w H hw => dsk_close (S := DS.new k) (W := []) rfl hw⟩
end Go.Proofs.YtcglabmlhljkmaaGreat
end
section
/- layer 14's law: the entries that are loaded, in plain terms. -/
namespace Go.Proofs.YtcglabmlhljkmaaGreat
open Go Go.RowKit Go.Gv
set_option linter.unusedVariables false
set_option linter.unusedSimpArgs false

theorem less_of {a b : KEY} (h : a.1 < b.1 ∨ (a.1 = b.1 ∧ a.2 < b.2)) : lessK a b = true := by
  rw [lessK]
  rcases h with h | ⟨h1, h2⟩
  · rw [decide_eq_true h]; rfl
  · rw [decide_eq_true h1, decide_eq_true h2, Bool.true_and, Bool.or_true]
end Go.Proofs.YtcglabmlhljkmaaGreat
end
section
/- tree: a view of a disk of 200 pages, of which the first ones are taken: one node more. -/
namespace Go.Proofs.YtcglabmlhljkmaaGreat
open Go Go.RowKit Go.Gv
set_option linter.unusedVariables false
set_option linter.unusedSimpArgs false

def uC (c : Nat) : List Bool := List.replicate c true ++ List.replicate (512 - c) false
theorem useC (c i : Nat) : useAt (uC c) i = decide (i < c) := by
  unfold useAt uC
  rw [List.getD_eq_getElem?_getD]
  by_cases h : i < c
  · rw [List.getElem?_append_left (by simpa using h), List.getElem?_replicate, if_pos h, decide_eq_true h]; rfl
  · rw [List.getElem?_append_right (by simpa using h), List.getElem?_replicate, decide_eq_false h]
    split <;> rfl
theorem uC_len {c : Nat} (h : c ≤ 512) : (uC c).length = 512 := by simp [uC]; omega
theorem rightC {c : Nat} (h2 : 2 ≤ c) (hc : c ≤ 200) : rightM ⟨200, uC c⟩ = true := by
  have hall : (List.range 512).all (fitAt ⟨200, uC c⟩) = true := fit_all (fun j hj => by
    unfold fitAt
    show (!(decide (j < 2) && !useAt (uC c) j || decide ((200 : Int) ≤ (j : Int)) && useAt (uC c) j)) = true
    rw [useC]
    by_cases h1 : j < c
    · rw [decide_eq_true h1, decide_eq_false (show ¬ (200 : Int) ≤ (j : Int) by omega)]
      simp
    · rw [decide_eq_false h1, decide_eq_false (show ¬ j < 2 by omega)]
      simp)
  show (decide ((8 : Int) ≤ 200) && decide ((200 : Int) ≤ 512) && _) = true
  rw [hall]; rfl
theorem runC {c : Nat} (h2 : 2 ≤ c) : ∀ j, j ≤ c → runTo ⟨200, uC c⟩ ⟨200, uC 2⟩ j = 0
  | 0, _ => rfl
  | j + 1, h => by
    rw [runTo, if_pos]
    unfold bothAt
    show (useAt (uC c) j || _) = true
    rw [useC, decide_eq_true (by omega)]; rfl
theorem runC1 {c : Nat} (h2 : 2 ≤ c) : runTo ⟨200, uC c⟩ ⟨200, uC 2⟩ (c + 1) = 1 := by
  rw [runTo, if_neg, runC h2 c (Nat.le_refl _)]
  unfold bothAt
  show ¬ (useAt (uC c) c || useAt (uC 2) c) = true
  rw [useC, useC, decide_eq_false (by omega), decide_eq_false (by omega)]; simp
theorem seekC {c : Nat} (h2 : 2 ≤ c) : ∀ (f k : Nat), k ≤ c → c < f + k → seek ⟨200, uC c⟩ ⟨200, uC 2⟩ 1 f k = some c
  | 0, k, h, hf => by omega
  | f + 1, k, h, hf => by
    rw [seek]
    by_cases hk : k = c
    · subst hk
      rw [runC1 h2, if_pos (by rfl)]
      simp
    · rw [runC h2 (k + 1) (by omega), if_neg (by simp), seekC h2 f (k + 1) (by omega) (by omega)]
theorem setC {c : Nat} (hc : c < 512) : (uC c).set c true = uC (c + 1) := by
  refine List.ext_getElem? (fun i => ?_)
  unfold uC
  rw [List.getElem?_set]
  by_cases h : c = i
  · subst h
    rw [if_pos rfl, if_pos (by simp; omega), List.getElem?_append_left (by simp), List.getElem?_replicate, if_pos (by omega)]
  · rw [if_neg h]
    by_cases h1 : i < c
    · rw [List.getElem?_append_left (by simpa using h1), List.getElem?_append_left (by simp; omega), List.getElem?_replicate, List.getElem?_replicate, if_pos h1, if_pos (by omega)]
    · rw [List.getElem?_append_right (by simp; omega), List.getElem?_append_right (by simp; omega), List.getElem?_replicate, List.getElem?_replicate]
      simp only [List.length_replicate]
      by_cases h3 : i < 512
      · rw [if_pos (by omega), if_pos (by omega)]
      · rw [if_neg (by omega), if_neg (by omega)]
theorem takeC {c : Nat} (h2 : 2 ≤ c) (hc : c < 200) : takeM ⟨200, uC c⟩ ⟨200, uC 2⟩ 1 = (⟨200, uC (c + 1)⟩, (c : Int), 0) := by
  have ha : alikeM ⟨200, uC c⟩ ⟨200, uC 2⟩ = true := by
    unfold alikeM
    rw [rightC h2 (by omega), rightC (Nat.le_refl 2) (by omega)]; rfl
  unfold takeM
  rw [ha, if_neg (by simp)]
  have : seek ⟨200, uC c⟩ ⟨200, uC 2⟩ 1 (⟨200, uC c⟩ : BM).p.toNat 0 = some c := seekC h2 200 0 (by omega) (by omega)
  rw [this]
  show ((⟨200, setFrom (uC c) true c 1⟩ : BM), (c : Int), 0) = _
  have hs : setFrom (uC c) true c 1 = uC (c + 1) := by
    show (uC c).set (c + 0) true = _
    rw [Nat.add_zero, setC (by omega)]
  rw [hs]
/-- a view whose first c pages are taken -/
structure VC (c : Nat) (v : VS) : Prop where
  on : v.S.on
  len : v.S.A.length = 51200
  gen : v.gen = 1
  m : v.m = ⟨200, uC c⟩
  old : v.old = ⟨200, uC 2⟩
  wt : v.S.W.length ≤ 4 * c
theorem VC.ok {c : Nat} {v : VS} (h : VC c v) (hc : c ≤ 200) : v.ok := ⟨h.on.1, by rw [h.gen]; decide, by rw [h.m]; exact uC_len (by omega), by rw [h.old]; exact uC_len (by omega)⟩
theorem putN_len {leaf : Bool} {x : ND3} (hr : rightN leaf x.E x.K x.D = true) : (putN leaf x.E x.K x.D).length ≤ 238 := by
  cases leaf
  · rw [rightN, if_neg (by simp), Bool.and_eq_true] at hr
    have := innerB_spec hr.2
    show (putI x.K x.D).length ≤ 238
    rw [putI_length]; omega
  · rw [rightN, if_pos rfl, Bool.and_eq_true, Bool.and_eq_true] at hr
    have := leaf_spec hr.2.2
    show (putL x.E).length ≤ 238
    rw [putL_length]; omega
theorem getN_put {leaf : Bool} {x : ND3} (hr : rightN leaf x.E x.K x.D = true) (hE : ∀ e ∈ x.E, entR e) (hK : ∀ k ∈ x.K, keyR k) : getN leaf (putN leaf x.E x.K x.D) = ⟨leaf, x.E, x.K, x.D, 0⟩ := by
  obtain ⟨E, Ks, D⟩ := x
  cases leaf
  · rw [rightN, if_neg (by simp), Bool.and_eq_true, decide_eq_true_eq] at hr
    have hE0 : E = [] := List.eq_nil_of_length_eq_zero hr.1
    show getN false (putI Ks D) = _
    rw [getN, if_neg (by simp), get_putI hr.2 hK, hE0]
  · rw [rightN, if_pos rfl, Bool.and_eq_true, Bool.and_eq_true, decide_eq_true_eq, decide_eq_true_eq] at hr
    have hK0 : Ks = [] := List.eq_nil_of_length_eq_zero hr.1
    have hD0 : D = [] := List.eq_nil_of_length_eq_zero hr.2.1
    show getN true (putL E) = _
    rw [getN, if_pos rfl, get_putL hr.2.2 hE, hK0, hD0]; rfl
theorem fit200 {j : Nat} (h : j < 200) : j * 256 + 256 ≤ 51200 := by
  have := Nat.mul_le_mul_right 256 (show j + 1 ≤ 200 from h)
  rw [Nat.add_mul] at this
  exact this
theorem kindN_known (leaf : Bool) : knownK (kindN leaf) = true := by cases leaf <;> rfl
theorem VC.wr {c : Nat} {v : VS} {leaf : Bool} {x : ND3} (h : VC c v) (h2 : 2 ≤ c) (hc : c < 200) (hr : rightN leaf x.E x.K x.D = true) (hE : ∀ e ∈ x.E, entR e) (hK : ∀ k ∈ x.K, keyR k) :
    ∃ v', wrN v leaf x = (v', (c : Int), 0) ∧ VC (c + 1) v' ∧ rdN v'.S (c : Int) leaf = ⟨leaf, x.E, x.K, x.D, 0⟩ ∧ ∀ (j : Nat) (lf : Bool), j < 200 → j ≠ c → rdN v'.S (j : Int) lf = rdN v.S (j : Int) lf := by
  have ht : takeM v.m v.old 1 = (⟨200, uC (c + 1)⟩, (c : Int), 0) := by rw [h.m, h.old]; exact takeC h2 hc
  obtain ⟨q, hq⟩ : ∃ q : PG, q = ⟨kindN leaf, (c : Int), v.gen, putN leaf x.E x.K x.D⟩ := ⟨_, rfl⟩
  have hok : okP q = true := by
    have hb := putN_len hr
    rw [hq]
    show (knownK (kindN leaf) && decide ((0 : Int) ≤ (c : Int)) && decide ((c : Int) < 512) && decide ((putN leaf x.E x.K x.D).length ≤ 238)) = true
    rw [kindN_known, decide_eq_true (by omega), decide_eq_true (by omega), decide_eq_true hb]; rfl
  have hpl : (putP q).length = 256 := putP_length q (okP_spec hok).2.2.2
  have hfit : c * 256 + 256 ≤ v.S.A.length := by rw [h.len]; omega
  obtain ⟨w1, w2, w3, w4, w5⟩ := DS.wrs_page h.on c (putP q) hpl hfit
  have hwp : wrPg v.S q = v.S.wrs ((c : Int) * 4) (secs (putP q) 4) := by rw [wrPg, if_pos hok, hq]
  have hVl : v.S.V.length = 51200 := by rw [DS.V_length h.on.1, h.len]
  have hgp := get_put q hok (by rw [hq]; show v.gen < _; rw [h.gen]; decide)
  generalize v.S.wrs ((c : Int) * 4) (secs (putP q) 4) = R at *
  have hrdc : ∀ kd, rdPg R.1 (c : Int) kd = if kindN leaf = kd then (q, 0) else (zeroP, 3) := by
    intro kd
    rw [rdPg_on w2 c (by rw [w4]; exact hfit), w3, pgAt_same _ _ _ (by rw [hVl]; omega) hpl, hgp]
    have e1 : q.a = (c : Int) := by rw [hq]
    have e2 : q.k = kindN leaf := by rw [hq]
    by_cases hk : kindN leaf = kd
    · rw [if_pos hk, if_pos ⟨rfl, e1, by rw [← hk]; exact e2⟩]
    · rw [if_neg hk, if_neg (fun z => hk (by rw [← e2]; exact z.2.2))]
  have hwt := h.wt
  have hlen : R.1.A.length = 51200 := by rw [w4, h.len]
  have hVC : VC (c + 1) ⟨R.1, v.gen, ⟨200, uC (c + 1)⟩, v.old⟩ := { on := w2, len := hlen, gen := h.gen, m := rfl, old := h.old, wt := (by have := w5; simp only; omega) }
  refine ⟨⟨R.1, v.gen, ⟨200, uC (c + 1)⟩, v.old⟩, ?_, hVC, ?_, ?_⟩
  · rw [wrN, if_neg (by rw [hr]; simp), ht, if_neg (by simp), ← hq, hwp]
    simp only [w1]
  · show rdN R.1 (c : Int) leaf = _
    have hb : q.b = putN leaf x.E x.K x.D := by rw [hq]
    rw [rdN, hrdc, if_pos rfl, if_pos rfl, hb]
    exact getN_put hr hE hK
  · intro j lf hj hjc
    show rdN R.1 (j : Int) lf = _
    have e : rdPg R.1 (j : Int) (kindN lf) = rdPg v.S (j : Int) (kindN lf) := by
      rw [rdPg_on w2 j (by rw [w4, h.len]; exact fit200 hj), rdPg_on h.on j (by rw [h.len]; exact fit200 hj), w3, pgAt_other _ _ _ _ (by rw [hVl]; omega) hpl hjc]
    rw [rdN, rdN, e]
/-- nodes that are written one by one -/
theorem VC.go {leaf : Bool} : ∀ (xs : List ND3) {c : Nat} {v : VS}, VC c v → 2 ≤ c → c + xs.length ≤ 200 → (∀ x ∈ xs, rightN leaf x.E x.K x.D = true ∧ (∀ e ∈ x.E, entR e) ∧ ∀ k ∈ x.K, keyR k) →
    ∃ v', unGo leaf v xs = (v', (List.range xs.length).map (fun i => ((c + i : Nat) : Int)), 0) ∧ VC (c + xs.length) v' ∧ (∀ i x, xs[i]? = some x → rdN v'.S ((c + i : Nat) : Int) leaf = ⟨leaf, x.E, x.K, x.D, 0⟩) ∧ ∀ (j : Nat) (lf : Bool), j < c → rdN v'.S (j : Int) lf = rdN v.S (j : Int) lf
  | [], c, v, h, h2, hc, hx => ⟨v, rfl, h, fun i x hi => by simp at hi, fun _ _ _ => rfl⟩
  | x :: xs, c, v, h, h2, hc, hx => by
    rw [List.length_cons] at hc
    obtain ⟨r1, r2, r3⟩ := hx x (List.mem_cons_self ..)
    obtain ⟨v1, e1, h1, a1, b1⟩ := h.wr h2 (by omega) r1 r2 r3
    obtain ⟨v', e2, h3, a2, b2⟩ := VC.go xs h1 (by omega) (by omega) (fun y hy => hx y (List.mem_cons_of_mem _ hy))
    refine ⟨v', ?_, by rw [List.length_cons, show c + (xs.length + 1) = c + 1 + xs.length by omega]; exact h3, ?_, ?_⟩
    · rw [unGo, e1, if_neg (by simp)]
      simp only [e2]
      rw [List.length_cons, List.range_succ_eq_map, List.map_cons, List.map_map]
      simp only [Nat.add_zero]
      congr 3
      refine List.map_congr_left (fun i _ => ?_)
      show ((c + 1 + i : Nat) : Int) = ((c + (i + 1) : Nat) : Int)
      omega
    · intro i y hy
      cases i with
      | zero =>
        simp at hy
        subst hy
        rw [Nat.add_zero, b2 c leaf (by omega)]
        exact a1
      | succ i =>
        have := a2 i y (by simpa using hy)
        rw [show c + (i + 1) = c + 1 + i by omega]
        exact this
    · intro j lf hj
      rw [b2 j lf (by omega), b1 j lf (by omega) (by omega)]
end Go.Proofs.YtcglabmlhljkmaaGreat
end
section
/- tree: a view whose pages in use are known: a page that is given, a node that is written. -/
namespace Go.Proofs.YtcglabmlhljkmaaGreat
open Go Go.RowKit Go.Gv
set_option linter.unusedVariables false
set_option linter.unusedSimpArgs false

theorem inv_perm {k : Nat} {m : BM} {U U' : List Nat} (i : Inv k m U) (h : U.Perm U') : Inv k m U' :=
  ⟨i.len, i.p, fun j => by rw [i.use, h.mem_iff], fun a ha => i.rng a (h.mem_iff.2 ha), h.nodup_iff.1 i.nodup, by rw [← h.length_eq]; exact i.free⟩
theorem inv_alike2 {k : Nat} {m o : BM} {U O : List Nat} (i : Inv k m U) (j : Inv k o O) (h : 8 ≤ k ∧ k ≤ 512) : alikeM m o = true := by
  rw [alikeM, i.right h, j.right h, i.p, j.p]; simp
theorem both_use {k : Nat} {m o : BM} {U O : List Nat} (i : Inv k m U) (j : Inv k o O) (p : Nat) : bothAt m o p = true ↔ (p < 2 ∨ p ∈ U ∨ p ∈ O) := by
  rw [bothAt, Bool.or_eq_true, i.use, j.use]
  constructor
  · rintro ((h | h) | (h | h))
    · exact .inl h
    · exact .inr (.inl h)
    · exact .inl h
    · exact .inr (.inr h)
  · rintro (h | h | h)
    · exact .inl (.inl h)
    · exact .inl (.inr h)
    · exact .inr (.inr h)
/-- so many pages are free -/
def Fre (k : Nat) (U O : List Nat) (n : Nat) : Prop := ∃ l : List Nat, l.length = n ∧ l.Nodup ∧ ∀ i ∈ l, (2 ≤ i ∧ i < k) ∧ i ∉ U ∧ i ∉ O
theorem Fre.le {k : Nat} {U O : List Nat} {n n' : Nat} (h : Fre k U O n) (hn : n' ≤ n) : Fre k U O n' := by
  obtain ⟨l, h1, h2, h3⟩ := h
  exact ⟨l.take n', by rw [List.length_take]; omega, h2.sublist (List.take_sublist _ _), fun i hi => h3 i (List.mem_of_mem_take hi)⟩
theorem Fre.sub {k : Nat} {U U' O : List Nat} {n : Nat} (h : Fre k U O n) (hs : ∀ i ∈ U', i ∈ U) : Fre k U' O n := by
  obtain ⟨l, h1, h2, h3⟩ := h
  exact ⟨l, h1, h2, fun i hi => ⟨(h3 i hi).1, fun c => (h3 i hi).2.1 (hs i c), (h3 i hi).2.2⟩⟩
theorem Fre.cons {k : Nat} {U O : List Nat} {n t : Nat} (h : Fre k U O (n + 1)) : Fre k (t :: U) O n := by
  obtain ⟨l, h1, h2, h3⟩ := h
  have hl : n ≤ (l.erase t).length := by
    by_cases ht : t ∈ l
    · rw [List.length_erase_of_mem ht]; omega
    · rw [List.erase_of_not_mem ht]; omega
  refine (Fre.le (n := (l.erase t).length) ⟨l.erase t, rfl, h2.sublist List.erase_sublist, fun i hi => ?_⟩ hl)
  have hil := (List.Nodup.mem_erase_iff h2).1 hi
  exact ⟨(h3 i hil.2).1, fun c => (List.mem_cons.1 c).elim hil.1 (h3 i hil.2).2.1, (h3 i hil.2).2.2⟩
theorem least_free (P : Nat → Bool) : ∀ n, (∀ p, p < n → P p = true) ∨ ∃ t, t < n ∧ P t = false ∧ ∀ p, p < t → P p = true
  | 0 => .inl (fun p hp => absurd hp (Nat.not_lt_zero p))
  | n + 1 => by
    rcases least_free P n with h | ⟨t, h1, h2, h3⟩
    · cases hn : P n with
      | true => exact .inl (fun p hp => by
          rcases Nat.lt_succ_iff_lt_or_eq.1 hp with q | q
          · exact h p q
          · rw [q]; exact hn)
      | false => exact .inr ⟨n, Nat.lt_succ_self n, hn, h⟩
    · exact .inr ⟨t, by omega, h2, h3⟩
theorem take_inv {k : Nat} {m o : BM} {U O : List Nat} (i : Inv k m U) (j : Inv k o O) (h : 8 ≤ k ∧ k ≤ 512) :
    (∃ (t : Nat) (m' : BM), takeM m o 1 = (m', (t : Int), 0) ∧ (2 ≤ t ∧ t < k) ∧ t ∉ U ∧ t ∉ O ∧ Inv k m' (t :: U)) ∨ ((takeM m o 1).2.2 = 5 ∧ ¬ Fre k U O 1) := by
  have hp := i.p
  have h1 : (!alikeM m o) = false := by rw [inv_alike2 i j h]; rfl
  rcases least_free (bothAt m o) k with hall | ⟨t, ht, hf, hb⟩
  · refine .inr ⟨?_, ?_⟩
    · have hs : seek m o 1 m.p.toNat 0 = none := seek_none _ _ _ _ (fun p hp' => hall p (by omega))
      rw [takeM, h1, hs]; rfl
    · rintro ⟨l, l1, l2, l3⟩
      cases l with
      | nil => cases l1
      | cons a l =>
        obtain ⟨⟨q1, q2⟩, q3, q4⟩ := l3 a (List.mem_cons_self ..)
        rcases (both_use i j a).1 (hall a q2) with c | c | c
        · omega
        · exact q3 c
        · exact q4 c
  · have hno : ¬ (t < 2 ∨ t ∈ U ∨ t ∈ O) := fun c => by rw [(both_use i j t).2 c] at hf; cases hf
    have ht2 : 2 ≤ t := by omega
    have hU : t ∉ U := fun c => hno (.inr (.inl c))
    have hO : t ∉ O := fun c => hno (.inr (.inr c))
    have htl : t < m.u.length := by rw [i.len]; omega
    have hs : seek m o 1 m.p.toNat 0 = some t := seek_some _ _ t hf hb _ _ (Nat.zero_le _) (by omega)
    have hft : useAt m.u t = false := by
      cases hu : useAt m.u t
      · rfl
      · exact absurd ((i.use t).1 hu) (fun c => c.elim (by omega) hU)
    refine .inl ⟨t, ⟨m.p, m.u.set t true⟩, ?_, ⟨ht2, ht⟩, hU, hO, ?_⟩
    · rw [takeM, h1, hs]; rfl
    · refine ⟨by simp [i.len], i.p, fun q => ?_, fun a ha => ?_, List.nodup_cons.2 ⟨hU, i.nodup⟩, ?_⟩
      · simp only [useAt_set _ _ _ _ htl]
        by_cases e : q = t
        · subst e; simp
        · rw [if_neg e, i.use]; simp [e]
      · rcases List.mem_cons.1 ha with rfl | ha
        · exact ⟨ht2, ht⟩
        · exact i.rng a ha
      · have := freeTo_take m.p m.u t htl (by rw [i.p]; omega) hft 512 (by omega)
        have hfr := i.free
        simp only [List.length_cons]
        show freeTo _ 512 + 2 + _ = k
        have : freeM m = freeTo ⟨m.p, m.u⟩ 512 := rfl
        omega
theorem give_inv {k : Nat} {m : BM} {R : List Nat} {x : Nat} (i : Inv k m (x :: R)) (h : 8 ≤ k ∧ k ≤ 512) : ∃ m', giveM m (x : Int) 1 = (m', 0) ∧ Inv k m' R :=
  ⟨_, (Inv.give (A := []) i h).1, (Inv.give (A := []) i h).2⟩
/-- a view of a disk of k pages, of which U are in use, and O were -/
structure VG (k : Nat) (U O : List Nat) (v : VS) : Prop where
  k8 : 8 ≤ k ∧ k ≤ 512
  on : v.S.on
  len : v.S.A.length = k * 256
  gen : v.gen < 18446744073709551616
  m : Inv k v.m U
  o : Inv k v.old O
  w : ∀ x ∈ v.S.W, 2 ≤ x.1 / 4 ∧ x.1 / 4 ∉ O
theorem VG.ok {k : Nat} {U O : List Nat} {v : VS} (h : VG k U O v) : v.ok := ⟨h.on.1, h.gen, h.m.len, h.o.len⟩
theorem VG.perm {k : Nat} {U U' O : List Nat} {v : VS} (h : VG k U O v) (p : U.Perm U') : VG k U' O v := ⟨h.k8, h.on, h.len, h.gen, inv_perm h.m p, h.o, h.w⟩
theorem VG.give {k : Nat} {R O : List Nat} {v : VS} {x : Nat} (h : VG k (x :: R) O v) : ∃ v', giN v (x : Int) = (v', 0) ∧ v'.S = v.S ∧ VG k R O v' := by
  obtain ⟨m', h1, h2⟩ := give_inv h.m h.k8
  refine ⟨⟨v.S, v.gen, m', v.old⟩, ?_, rfl, ⟨h.k8, h.on, h.len, h.gen, h2, h.o, h.w⟩⟩
  rw [giN, h1, if_pos rfl]
theorem fitk {j k : Nat} (h : j < k) : j * 256 + 256 ≤ k * 256 := by
  have := Nat.mul_le_mul_right 256 (show j + 1 ≤ k from h)
  rw [Nat.add_mul] at this
  exact this
/-- where writes go that wait -/
theorem wrs_W : ∀ (bs : List (List UInt8)) (S : DS) (i : Nat), ∀ x ∈ (S.wrs (i : Int) bs).1.W, x ∈ S.W ∨ (i ≤ x.1 ∧ x.1 < i + bs.length)
  | [], S, i, x, hx => .inl hx
  | b :: bs, S, i, x, hx => by
    have hw : ∀ y ∈ (S.wr (i : Int) b).1.W, y ∈ S.W ∨ y.1 = i := by
      intro y hy
      unfold DS.wr at hy
      split at hy
      · exact .inl hy
      · split at hy
        · exact .inl hy
        · split at hy
          · exact .inl hy
          · rcases List.mem_append.1 hy with c | c
            · exact .inl c
            · rw [List.mem_singleton.1 c]
              exact .inr (by simp)
    have he : S.wrs (i : Int) (b :: bs) = if (S.wr (i : Int) b).2 = 0 then (S.wr (i : Int) b).1.wrs ((i : Int) + 1) bs else S.wr (i : Int) b := rfl
    rw [he] at hx
    rw [List.length_cons]
    split at hx
    · have e1 : ((i : Int) + 1) = ((i + 1 : Nat) : Int) := by omega
      rw [e1] at hx
      rcases wrs_W bs _ (i + 1) x hx with c | c
      · rcases hw x c with c | c
        · exact .inl c
        · exact .inr (by omega)
      · exact .inr (by omega)
    · rcases hw x hx with c | c
      · exact .inl c
      · exact .inr (by omega)
/-- a node that is written -/
theorem VG.wr {k : Nat} {U O : List Nat} {v : VS} {leaf : Bool} {x : ND3} (h : VG k U O v) (hr : rightN leaf x.E x.K x.D = true) (hE : ∀ e ∈ x.E, entR e) (hK : ∀ k ∈ x.K, keyR k) :
    (∃ (t : Nat) (v' : VS), wrN v leaf x = (v', (t : Int), 0) ∧ VG k (t :: U) O v' ∧ (2 ≤ t ∧ t < k) ∧ t ∉ U ∧ t ∉ O ∧ rdN v'.S (t : Int) leaf = ⟨leaf, x.E, x.K, x.D, 0⟩ ∧ v'.S.W.length ≤ v.S.W.length + 4 ∧ ∀ (j : Nat), j < k → j ≠ t → pgAt v'.S.V j = pgAt v.S.V j ∧ ∀ lf, rdN v'.S (j : Int) lf = rdN v.S (j : Int) lf)
    ∨ ((wrN v leaf x).2.2 = 5 ∧ (wrN v leaf x).1.S = v.S ∧ ¬ Fre k U O 1) := by
  rcases take_inv h.m h.o h.k8 with ⟨t, m', ht, ht2, hU, hO, hi⟩ | ⟨h5, hn⟩
  · refine .inl ⟨t, ?_⟩
    obtain ⟨q, hq⟩ : ∃ q : PG, q = ⟨kindN leaf, (t : Int), v.gen, putN leaf x.E x.K x.D⟩ := ⟨_, rfl⟩
    have hk := h.k8
    have hok : okP q = true := by
      have hb := putN_len hr
      rw [hq]
      show (knownK (kindN leaf) && decide ((0 : Int) ≤ (t : Int)) && decide ((t : Int) < 512) && decide ((putN leaf x.E x.K x.D).length ≤ 238)) = true
      rw [kindN_known, decide_eq_true (by omega), decide_eq_true (by omega), decide_eq_true hb]; rfl
    have hpl : (putP q).length = 256 := putP_length q (okP_spec hok).2.2.2
    have hfit : t * 256 + 256 ≤ v.S.A.length := by rw [h.len]; exact fitk ht2.2
    obtain ⟨w1, w2, w3, w4, w5⟩ := DS.wrs_page h.on t (putP q) hpl hfit
    have hwp : wrPg v.S q = v.S.wrs ((t : Int) * 4) (secs (putP q) 4) := by rw [wrPg, if_pos hok, hq]
    have hVl : v.S.V.length = k * 256 := by rw [DS.V_length h.on.1, h.len]
    have hgp := get_put q hok (by rw [hq]; show v.gen < _; exact h.gen)
    have hww : ∀ x ∈ (v.S.wrs ((t : Int) * 4) (secs (putP q) 4)).1.W, 2 ≤ x.1 / 4 ∧ x.1 / 4 ∉ O := by
      intro x hx
      have e4 : (t : Int) * 4 = ((t * 4 : Nat) : Int) := by omega
      rw [e4] at hx
      rcases wrs_W (secs (putP q) 4) v.S (t * 4) x hx with c | ⟨c1, c2⟩
      · exact h.w x c
      · rw [secs_length] at c2
        have e5 : x.1 / 4 = t := by omega
        rw [e5]; exact ⟨ht2.1, hO⟩
    generalize v.S.wrs ((t : Int) * 4) (secs (putP q) 4) = R at *
    have hrdc : ∀ kd, rdPg R.1 (t : Int) kd = if kindN leaf = kd then (q, 0) else (zeroP, 3) := by
      intro kd
      rw [rdPg_on w2 t (by rw [w4]; exact hfit), w3, pgAt_same _ _ _ (by rw [hVl]; exact fitk ht2.2) hpl, hgp]
      have e1 : q.a = (t : Int) := by rw [hq]
      have e2 : q.k = kindN leaf := by rw [hq]
      by_cases hk : kindN leaf = kd
      · rw [if_pos hk, if_pos ⟨rfl, e1, by rw [← hk]; exact e2⟩]
      · rw [if_neg hk, if_neg (fun z => hk (by rw [← e2]; exact z.2.2))]
    have hlen : R.1.A.length = k * 256 := by rw [w4, h.len]
    refine ⟨⟨R.1, v.gen, m', v.old⟩, ?_, ⟨hk, w2, hlen, h.gen, hi, h.o, hww⟩, ht2, hU, hO, ?_, ?_, ?_⟩
    · rw [wrN, if_neg (by rw [hr]; simp), ht, if_neg (by simp), ← hq, hwp]
      simp only [w1]
    · show rdN R.1 (t : Int) leaf = _
      have hb : q.b = putN leaf x.E x.K x.D := by rw [hq]
      rw [rdN, hrdc, if_pos rfl, if_pos rfl, hb]
      exact getN_put hr hE hK
    · show R.1.W.length ≤ _
      have := w5; omega
    · intro j hj hjc
      have ep : pgAt R.1.V j = pgAt v.S.V j := by rw [w3, pgAt_other _ _ _ _ (by rw [hVl]; exact fitk ht2.2) hpl hjc]
      refine ⟨ep, fun lf => ?_⟩
      show rdN R.1 (j : Int) lf = _
      have e : rdPg R.1 (j : Int) (kindN lf) = rdPg v.S (j : Int) (kindN lf) := by
        rw [rdPg_on w2 j (by rw [hlen]; exact fitk hj), rdPg_on h.on j (by rw [h.len]; exact fitk hj), ep]
      rw [rdN, rdN, e]
  · refine .inr ?_
    have e : wrN v leaf x = (v, 0, 5) := by rw [wrN, if_neg (by rw [hr]; simp), if_pos (by rw [h5]; decide), h5]
    rw [e]
    exact ⟨rfl, rfl, hn⟩
end Go.Proofs.YtcglabmlhljkmaaGreat
end
section
/- txn: pages side by side that are taken, in plain terms. -/
namespace Go.Proofs.YtcglabmlhljkmaaGreat
open Go Go.RowKit Go.Gv
set_option linter.unusedVariables false
set_option linter.unusedSimpArgs false

/-- one page more in use -/
theorem inv_set {k : Nat} {m : BM} {U : List Nat} {t : Nat} (i : Inv k m U) (h : 8 ≤ k ∧ k ≤ 512) (ht : 2 ≤ t ∧ t < k) (hU : t ∉ U) : Inv k ⟨m.p, m.u.set t true⟩ (t :: U) := by
  have hp := i.p
  have htl : t < m.u.length := by rw [i.len]; omega
  have hft : useAt m.u t = false := by
    cases hu : useAt m.u t
    · rfl
    · exact absurd ((i.use t).1 hu) (fun c => c.elim (by omega) hU)
  refine ⟨by simp [i.len], i.p, fun q => ?_, fun a ha => ?_, List.nodup_cons.2 ⟨hU, i.nodup⟩, ?_⟩
  · simp only [useAt_set _ _ _ _ htl]
    by_cases e : q = t
    · subst e; simp
    · rw [if_neg e, i.use]; simp [e]
  · rcases List.mem_cons.1 ha with rfl | ha
    · exact ht
    · exact i.rng a ha
  · have := freeTo_take m.p m.u t htl (by rw [i.p]; omega) hft 512 (by omega)
    have hfr := i.free
    simp only [List.length_cons]
    show freeTo _ 512 + 2 + _ = k
    have : freeM m = freeTo ⟨m.p, m.u⟩ 512 := rfl
    omega
/-- pages side by side -/
def runL (t n : Nat) : List Nat := List.range' t n
theorem runL_mem {t n i : Nat} : i ∈ runL t n ↔ t ≤ i ∧ i < t + n := by
  rw [runL, List.mem_range'_1]
end Go.Proofs.YtcglabmlhljkmaaGreat
end
section
/- walk: rows of nodes and groups of them; what other pages' turning leaves. -/
namespace Go.Proofs.YtcglabmlhljkmaaGreat
open Go Go.RowKit Go.Gv
set_option linter.unusedVariables false
set_option linter.unusedSimpArgs false

/-- how many nodes were read, in a row, when the k-th entry is told -/
def gVL {α : Type} (n : α → Nat) (C : α → Nat) (V : α → Nat → Nat) : List α → Nat → Nat
  | [], _ => 0
  | x :: xs, k => if k < n x then V x k else C x + gVL n C V xs (k - n x)
theorem flat_congr {α β : Type} {f g : α → List β} : ∀ {D : List α}, (∀ d ∈ D, f d = g d) → D.flatMap f = D.flatMap g
  | [], _ => rfl
  | d :: D, h => by rw [List.flatMap_cons, List.flatMap_cons, h d (List.mem_cons_self ..), flat_congr (fun x hx => h x (List.mem_cons_of_mem _ hx))]
/-- all below can be read, and stands in the first c pages -/
def wkGc (S : DS) (c : Nat) : Nat → Int → Prop
  | 0, _ => False
  | h + 1, a => (∃ j : Nat, j < c ∧ a = (j : Int)) ∧ (rdN S a (decide (h = 0))).e = 0 ∧ (rdN S a (decide (h = 0))).E.length ≤ 1000 ∧ (rdN S a (decide (h = 0))).D.length ≤ 1000 ∧ ∀ k ∈ (rdN S a (decide (h = 0))).D, wkGc S c h k
end Go.Proofs.YtcglabmlhljkmaaGreat
end
section
/- walk: levels of a tree that is loaded. -/
namespace Go.Proofs.YtcglabmlhljkmaaGreat
open Go Go.RowKit Go.Gv
set_option linter.unusedVariables false
set_option linter.unusedSimpArgs false

def entX (S : DS) (h : Nat) (x : ND3) : List ENT := x.E ++ x.D.flatMap (wkE S h)
def nX (S : DS) (h : Nat) (x : ND3) : Nat := (entX S h x).length
def cX (S : DS) (h : Nat) (x : ND3) : Nat := 1 + (x.D.map (wkC S h)).sum
def vX (S : DS) (h : Nat) (x : ND3) (k : Nat) : Nat := 1 + if k < x.E.length then 0 else wkVL (wkE S h) (wkC S h) (wkV S h) x.D (k - x.E.length)
/-- how many entries a node of that height has that is full -/
def capN (h : Nat) : Nat := 7 * 16 ^ h
/-- how many nodes are read for the k-th entry -/
def visF : Nat → Nat → Nat
  | 0, k => k / 7 + 1
  | h + 1, k => visF h k + (k / capN (h + 1) + 1)
/-- entries that rise -/
def rise (l : List ENT) : Prop := ∀ i j, i < j → j < l.length → lessK (l.getD i ent0).key (l.getD j ent0).key = true
theorem lessK_trans {a b c : KEY} (h1 : lessK a b = true) (h2 : lessK b c = true) : lessK a c = true := by
  have d : ∀ {a b : KEY}, lessK a b = true → a.1 < b.1 ∨ (a.1 = b.1 ∧ a.2 < b.2) := by
    intro a b h
    simpa [lessK] using h
  refine less_of ?_
  rcases d h1 with h | ⟨h, h'⟩ <;> rcases d h2 with g | ⟨g, g'⟩
  · exact .inl (by omega)
  · exact .inl (by omega)
  · exact .inl (by omega)
  · exact .inr ⟨by omega, by omega⟩
/-- a level of nodes that are not yet written -/
structure Lev (l : List ENT) (h c : Nat) (v : VS) (xs : List ND3) : Prop where
  vc : VC c v
  c2 : 2 ≤ c
  n1 : 1 ≤ xs.length
  cnt : xs.length = (l.length + capN h - 1) / capN h
  ok : ∀ x ∈ xs, rightN (decide (h = 0)) x.E x.K x.D = true ∧ (∀ e ∈ x.E, entR e) ∧ (∀ k ∈ x.K, keyR k) ∧ ∀ d ∈ x.D, wkGc v.S c h d
  sz : ∀ (i : Nat) (x : ND3), xs[i]? = some x → nX v.S h x = min (capN h) (l.length - i * capN h) ∧ least3 (decide (h = 0)) x = (l.getD (i * capN h) ent0).key
  ents : xs.flatMap (entX v.S h) = l
  vis : ∀ k, k < l.length → gVL (nX v.S h) (cX v.S h) (vX v.S h) xs k = visF h k
  tot : (xs.map (cX v.S h)).sum = visF h (l.length - 1)
theorem keysTo_of {ks : List KEY} : ∀ n, (∀ i, i < n → keyAt ks i = true) → keysTo ks n = true
  | 0, _ => rfl
  | n + 1, h => by rw [keysTo, keysTo_of n (fun i hi => h i (by omega)), h n (by omega)]; rfl
theorem kidsTo_of {ks : List Int} : ∀ n, (∀ i, i < n → kidAt ks i = true) → kidsTo ks n = true
  | 0, _ => rfl
  | n + 1, h => by rw [kidsTo, kidsTo_of n (fun i hi => h i (by omega)), h n (by omega)]; rfl
end Go.Proofs.YtcglabmlhljkmaaGreat
end
section
/- tree: trees whose nodes are as they should be: entries, pages, what a node that is written makes of them. -/
namespace Go.Proofs.YtcglabmlhljkmaaGreat
open Go Go.RowKit Go.Gv
set_option linter.unusedVariables false
set_option linter.unusedSimpArgs false

def headK (S : DS) (h : Nat) (d : Int) : KEY := ((wkE S h d).headD ent0).key
/-- the pages of a tree -/
def pgN (S : DS) : Nat → Int → List Nat
  | 0, _ => []
  | h + 1, a => a.toNat :: (rdN S a (decide (h = 0))).D.flatMap (pgN S h)
def ndG (g : GOT) : ND3 := ⟨g.E, g.K, g.D⟩
/-- a tree's nodes are as they should be, and none too small -/
def tkG (S : DS) (k : Nat) (mu : Nat → Nat) : Nat → Nat → Int → Prop
  | 0, _, _ => False
  | h + 1, m, a => (∃ p : Nat, a = (p : Int) ∧ 2 ≤ p ∧ p < k) ∧ (rdN S a (decide (h = 0))).e = 0 ∧ (rdN S a (decide (h = 0))).leaf = decide (h = 0) ∧
    okN (decide (h = 0)) (ndG (rdN S a (decide (h = 0)))) ∧ (1 ≤ szN (decide (h = 0)) (ndG (rdN S a (decide (h = 0)))) ∧ m ≤ szN (decide (h = 0)) (ndG (rdN S a (decide (h = 0)))) ∧ szN (decide (h = 0)) (ndG (rdN S a (decide (h = 0)))) ≤ mostN (decide (h = 0))) ∧
    (∀ d ∈ (rdN S a (decide (h = 0))).D, tkG S k mu h (mu h) d) ∧ (rdN S a (decide (h = 0))).K = (rdN S a (decide (h = 0))).D.map (headK S h)
/-- a node that may stand over such trees -/
def okX (S : DS) (k : Nat) (mu : Nat → Nat) (h : Nat) (y : ND3) : Prop :=
  okN (decide (h = 0)) y ∧ 1 ≤ szN (decide (h = 0)) y ∧ (∀ d ∈ y.D, tkG S k mu h (mu h) d) ∧ y.K = y.D.map (headK S h)
def pagX (S : DS) (h : Nat) (y : ND3) : List Nat := y.D.flatMap (pgN S h)
theorem tkG_okX {S : DS} {k : Nat} {mu : Nat → Nat} {h m : Nat} {a : Int} (g : tkG S k mu (h + 1) m a) : okX S k mu h (ndG (rdN S a (decide (h = 0)))) := ⟨g.2.2.2.1, g.2.2.2.2.1.1, g.2.2.2.2.2.1, g.2.2.2.2.2.2⟩
theorem wkE_succ (S : DS) (h : Nat) (a : Int) : wkE S (h + 1) a = entX S h (ndG (rdN S a (decide (h = 0)))) := rfl
theorem pgN_succ (S : DS) (h : Nat) (a : Int) : pgN S (h + 1) a = a.toNat :: pagX S h (ndG (rdN S a (decide (h = 0)))) := rfl
/-- two states of a disk are alike on some pages -/
def same (S S' : DS) (P : List Nat) : Prop := ∀ p, (p ∈ P ∨ p < 2) → pgAt S'.V p = pgAt S.V p ∧ ∀ lf, rdN S' (p : Int) lf = rdN S (p : Int) lf
theorem same.rfl {S : DS} {P : List Nat} : same S S P := fun _ _ => ⟨Eq.refl _, fun _ => Eq.refl _⟩
theorem same.sub {S S' : DS} {P Q : List Nat} (h : same S S' P) (hs : ∀ p ∈ Q, p ∈ P) : same S S' Q := fun p hp => h p (hp.imp (hs p) id)
theorem same.trans {S S' S'' : DS} {P : List Nat} (h : same S S' P) (h' : same S' S'' P) : same S S'' P := fun p hp => ⟨by rw [(h' p hp).1, (h p hp).1], fun lf => by rw [(h' p hp).2 lf, (h p hp).2 lf]⟩
theorem same.rd {S S' : DS} {P : List Nat} (h : same S S' P) {p : Nat} (hp : p ∈ P) (lf : Bool) : rdN S' (p : Int) lf = rdN S (p : Int) lf := (h p (.inl hp)).2 lf
theorem tk_same {S S' : DS} {k : Nat} {mu : Nat → Nat} : ∀ (h m : Nat) (a : Int), tkG S k mu h m a → same S S' (pgN S h a) → tkG S' k mu h m a ∧ wkE S' h a = wkE S h a ∧ pgN S' h a = pgN S h a
  | 0, _, _, g, _ => g.elim
  | h + 1, m, a, g, sm => by
    obtain ⟨⟨p, hp, hp2⟩, g1, g2, g3, g4, g5, g6⟩ := g
    have hr : rdN S' a (decide (h = 0)) = rdN S a (decide (h = 0)) := by
      have := sm.rd (p := p) (by rw [pgN, hp]; exact List.mem_cons_self ..) (decide (h = 0))
      rw [hp]; exact this
    have ih := fun d (hd : d ∈ (rdN S a (decide (h = 0))).D) => tk_same h (mu h) d (g5 d hd) (sm.sub (fun q hq => by
      rw [pgN]
      exact List.mem_cons_of_mem _ (List.mem_flatMap.2 ⟨d, hd, hq⟩)))
    refine ⟨⟨⟨p, hp, hp2⟩, by rw [hr]; exact g1, by rw [hr]; exact g2, by rw [hr]; exact g3, by rw [hr]; exact g4, fun d hd => by rw [hr] at hd; exact (ih d hd).1, ?_⟩, ?_, ?_⟩
    · rw [hr, g6]
      exact List.map_congr_left (fun d hd => by rw [headK, headK, (ih d hd).2.1])
    · rw [wkE, wkE, hr, flat_congr (fun d hd => (ih d hd).2.1)]
    · rw [pgN, pgN, hr, flat_congr (fun d hd => (ih d hd).2.2)]
theorem ok_same {S S' : DS} {k : Nat} {mu : Nat → Nat} {h : Nat} {y : ND3} (g : okX S k mu h y) (sm : same S S' (pagX S h y)) : okX S' k mu h y ∧ entX S' h y = entX S h y ∧ pagX S' h y = pagX S h y := by
  obtain ⟨g3, g4, g5, g6⟩ := g
  have ih := fun d (hd : d ∈ y.D) => tk_same h (mu h) d (g5 d hd) (sm.sub (fun q hq => List.mem_flatMap.2 ⟨d, hd, hq⟩))
  refine ⟨⟨g3, g4, fun d hd => (ih d hd).1, ?_⟩, ?_, ?_⟩
  · rw [g6]
    exact List.map_congr_left (fun d hd => by rw [headK, headK, (ih d hd).2.1])
  · rw [entX, entX, flat_congr (fun d hd => (ih d hd).2.1)]
  · rw [pagX, pagX, flat_congr (fun d hd => (ih d hd).2.2)]
theorem tk_ne {S : DS} {k : Nat} {mu : Nat → Nat} : ∀ (h m : Nat) (a : Int), tkG S k mu h m a → wkE S h a ≠ []
  | 0, _, _, g => g.elim
  | h + 1, m, a, g => by
    obtain ⟨_, _, _, g3, g4, g5, _⟩ := g
    rw [wkE]
    by_cases h0 : h = 0
    · subst h0
      have : 1 ≤ (rdN S a (decide (0 = 0))).E.length := g4.1
      intro c
      rw [List.append_eq_nil_iff] at c
      rw [c.1] at this
      exact absurd this (by decide)
    · rw [decide_eq_false h0] at g3 g4 g5 ⊢
      have : 1 ≤ (rdN S a false).D.length := g4.1
      obtain ⟨d, D, hD⟩ : ∃ d D, (rdN S a false).D = d :: D := by
        cases hh : (rdN S a false).D with
        | nil => rw [hh] at this; exact absurd this (by decide)
        | cons d D => exact ⟨d, D, rfl⟩
      intro c
      rw [List.append_eq_nil_iff] at c
      have c2 := c.2
      rw [hD, List.flatMap_cons, List.append_eq_nil_iff] at c2
      exact tk_ne h (mu h) d (g5 d (by rw [hD]; exact List.mem_cons_self ..)) c2.1
theorem tk_page {S : DS} {k : Nat} {mu : Nat → Nat} {h m : Nat} {a : Int} (g : tkG S k mu h m a) : ∃ p : Nat, a = (p : Int) ∧ (2 ≤ p ∧ p < k) ∧ ∃ l, pgN S h a = p :: l := by
  cases h with
  | zero => exact g.elim
  | succ h =>
    obtain ⟨⟨p, hp, hp2⟩, _⟩ := g
    subst hp
    exact ⟨p, rfl, hp2, (rdN S (p : Int) (decide (h = 0))).D.flatMap (pgN S h), rfl⟩
theorem head_app {l m : List ENT} (h : l ≠ []) : (l ++ m).headD ent0 = l.headD ent0 := by
  cases l with
  | nil => exact absurd rfl h
  | cons x l => rfl
/-- the least key of a node is that of its first entry -/
theorem least_head {S : DS} {k : Nat} {mu : Nat → Nat} {h : Nat} {y : ND3} (g : okX S k mu h y) : least3 (decide (h = 0)) y = ((entX S h y).headD ent0).key := by
  obtain ⟨g3, g4, g5, g6⟩ := g
  by_cases h0 : h = 0
  · subst h0
    obtain ⟨hK, hD⟩ := g3
    rw [entX, hD, List.flatMap_nil, List.append_nil]
    show leastN true y.E y.K = _
    have : 1 ≤ y.E.length := g4
    cases hE : y.E with
    | nil => rw [hE] at this; exact absurd this (by decide)
    | cons e E => rfl
  · rw [decide_eq_false h0] at g3 g4 ⊢
    obtain ⟨hE, hK⟩ := g3
    have : 1 ≤ y.D.length := g4
    obtain ⟨d, D, hD⟩ : ∃ d D, y.D = d :: D := by
      cases hh : y.D with
      | nil => rw [hh] at this; exact absurd this (by decide)
      | cons d D => exact ⟨d, D, rfl⟩
    rw [entX, hE, List.nil_append, hD, List.flatMap_cons, head_app (tk_ne h (mu h) d (g5 d (by rw [hD]; exact List.mem_cons_self ..)))]
    show leastN false y.E y.K = _
    rw [g6, hD, hE]; rfl
/-- a node that was written -/
theorem tk_written {S S' : DS} {k : Nat} {mu : Nat → Nat} {h m t : Nat} {y : ND3} (g : okX S k mu h y) (sm : same S S' (pagX S h y)) (hr : rdN S' (t : Int) (decide (h = 0)) = ⟨decide (h = 0), y.E, y.K, y.D, 0⟩) (ht : 2 ≤ t ∧ t < k) (hm : m ≤ szN (decide (h = 0)) y) (hM : szN (decide (h = 0)) y ≤ mostN (decide (h = 0))) :
    tkG S' k mu (h + 1) m (t : Int) ∧ wkE S' (h + 1) (t : Int) = entX S h y ∧ pgN S' (h + 1) (t : Int) = t :: pagX S h y := by
  obtain ⟨⟨g3, g4, g5, g6⟩, e1, e2⟩ := ok_same g sm
  have hn : ndG (rdN S' (t : Int) (decide (h = 0))) = y := by rw [hr]; rfl
  refine ⟨⟨⟨t, rfl, ht⟩, by rw [hr], by rw [hr], by rw [hn]; exact g3, by rw [hn]; exact ⟨g4, hm, hM⟩, fun d hd => by rw [hr] at hd; exact g5 d hd, by rw [hr]; exact g6⟩, ?_, ?_⟩
  · rw [wkE_succ, hn, e1]
  · rw [pgN_succ, hn, e2]; rfl
/-- entries that rise, none meeting another one -/
def ordE (l : List ENT) : Prop := l.Pairwise (fun a b => afterE a b = true) ∧ ∀ e ∈ l, entOk e = true ∧ entR e
theorem ordE.sub {l l' : List ENT} (h : ordE l) (s : l'.Sublist l) : ordE l' := ⟨h.1.sublist s, fun e he => h.2 e (s.subset he)⟩
theorem entsTo_of {E : List ENT} : ∀ n, (∀ i, i < n → entAt E i = true) → entsTo E n = true
  | 0, _ => rfl
  | n + 1, h => by rw [entsTo, entsTo_of n (fun i hi => h i (by omega)), h n (by omega)]; rfl
theorem getD_at {α : Type} {l : List α} {d : α} {i : Nat} (h : i < l.length) : l.getD i d = l[i] := by
  rw [List.getD_eq_getElem?_getD, List.getElem?_eq_getElem h]; rfl
theorem after_less {a b : ENT} (h : afterE a b = true) : lessK a.key b.key = true := by
  rw [afterE, Bool.and_eq_true] at h
  exact h.1
theorem ent_keyOk {e : ENT} (h : entOk e = true) : keyOk e.key = true := by
  simp only [entOk, Bool.and_eq_true] at h
  exact h.1.1.1.1.1.1
theorem betw_i {n low high : Int} (h1 : low ≤ n) (h2 : n ≤ high) : betw n low high = true := by
  rw [betw, decide_eq_true h1, decide_eq_true h2]; rfl
/-- the first entries of trees, side by side -/
theorem heads_sub {S : DS} {h : Nat} : ∀ (D : List Int), (∀ d ∈ D, wkE S h d ≠ []) → (D.map (fun d => (wkE S h d).headD ent0)).Sublist (D.flatMap (wkE S h))
  | [], _ => List.Sublist.slnil
  | d :: D, hn => by
    rw [List.map_cons, List.flatMap_cons]
    have ih := heads_sub D (fun d hd => hn d (List.mem_cons_of_mem _ hd))
    cases hw : wkE S h d with
    | nil => exact absurd hw (hn d (List.mem_cons_self ..))
    | cons e l => exact List.Sublist.cons_cons _ (ih.trans (List.sublist_append_right _ _))
theorem pages_sub {S : DS} {k : Nat} {mu : Nat → Nat} {h : Nat} : ∀ (D : List Int), (∀ d ∈ D, tkG S k mu h (mu h) d) → (D.map Int.toNat).Sublist (D.flatMap (pgN S h))
  | [], _ => List.Sublist.slnil
  | d :: D, hn => by
    rw [List.map_cons, List.flatMap_cons]
    have ih := pages_sub D (fun d hd => hn d (List.mem_cons_of_mem _ hd))
    obtain ⟨p, hp, _, l, hl⟩ := tk_page (hn d (List.mem_cons_self ..))
    rw [hl, hp]
    exact List.Sublist.cons_cons _ (ih.trans (List.sublist_append_right _ _))
/-- a node over trees may be written -/
theorem nodeRight_of {S : DS} {k : Nat} {mu : Nat → Nat} {h : Nat} {y : ND3} (g : okX S k mu h y) (hk : k ≤ 512) (hM : szN (decide (h = 0)) y ≤ mostN (decide (h = 0))) (ho : ordE (entX S h y)) (hp : (pagX S h y).Nodup) :
    rightN (decide (h = 0)) y.E y.K y.D = true ∧ (∀ e ∈ y.E, entR e) ∧ ∀ q ∈ y.K, keyR q := by
  obtain ⟨g3, g4, g5, g6⟩ := g
  have hER : ∀ e ∈ y.E, entR e := fun e he => (ho.2 e (by rw [entX]; exact List.mem_append_left _ he)).2
  by_cases h0 : h = 0
  · subst h0
    obtain ⟨hK, hD⟩ := g3
    have hoE : ordE y.E := by
      rw [entX, hD, List.flatMap_nil, List.append_nil] at ho
      exact ho
    have hl1 : 1 ≤ y.E.length := g4
    have hl2 : y.E.length ≤ 7 := hM
    refine ⟨?_, hER, fun q hq => by rw [hK] at hq; cases hq⟩
    have he : entsTo y.E y.E.length = true := entsTo_of _ (fun i hi => by
      have hok := (hoE.2 (y.E.getD i ent0) (by rw [getD_at hi]; exact List.getElem_mem hi)).1
      rw [entAt, hok, Bool.true_and]
      rcases Nat.eq_zero_or_pos i with q | q
      · rw [decide_eq_true q]; rfl
      · have := List.pairwise_iff_getElem.1 hoE.1 (i - 1) i (by omega) hi (by omega)
        rw [getD_at hi, getD_at (show i - 1 < y.E.length by omega), this, Bool.or_true])
    show (decide (y.K.length = 0) && (decide (y.D.length = 0) && (entsTo y.E y.E.length && betw (y.E.length : Int) 1 7))) = true
    rw [hK, hD, he, betw_i (show (1 : Int) ≤ (y.E.length : Int) by omega) (show (y.E.length : Int) ≤ 7 by omega)]; rfl
  · rw [decide_eq_false h0] at g3 g4 hM ⊢
    obtain ⟨hE, hK⟩ := g3
    have hl1 : 1 ≤ y.D.length := g4
    have hl2 : y.D.length ≤ 16 := hM
    rw [entX, hE, List.nil_append] at ho
    have hne : ∀ d ∈ y.D, wkE S h d ≠ [] := fun d hd => tk_ne h (mu h) d (g5 d hd)
    obtain ⟨T, hT⟩ : ∃ T, T = y.D.map (fun d => (wkE S h d).headD ent0) := ⟨_, rfl⟩
    have hoT : ordE T := by rw [hT]; exact ho.sub (heads_sub y.D hne)
    have hTl : T.length = y.D.length := by rw [hT, List.length_map]
    have hKT : y.K = T.map (fun e => e.key) := by rw [g6, hT, List.map_map]; rfl
    have hKl : y.K.length = y.D.length := hK
    have hKi : ∀ i, i < y.D.length → y.K.getD i (0, 0) = (T.getD i ent0).key := fun i hi => by
      rw [hKT, getD_at (show i < (T.map (fun e : ENT => e.key)).length by rw [List.length_map]; omega), getD_at (show i < T.length by omega), List.getElem_map]
    have hks : keysTo y.K y.K.length = true := keysTo_of _ (fun i hi => by
      have hi' : i < T.length := by omega
      have hok := (hoT.2 (T.getD i ent0) (by rw [getD_at hi']; exact List.getElem_mem hi')).1
      rw [keyAt, hKi i (by omega), ent_keyOk hok, Bool.true_and]
      rcases Nat.eq_zero_or_pos i with q | q
      · rw [decide_eq_true q]; rfl
      · have := List.pairwise_iff_getElem.1 hoT.1 (i - 1) i (by omega) hi' (by omega)
        rw [hKi (i - 1) (by omega), getD_at hi', getD_at (show i - 1 < T.length by omega), after_less this, Bool.or_true])
    have hnd : y.D.Nodup := by
      have := hp.sublist (pages_sub y.D g5)
      exact List.Pairwise.of_map Int.toNat (fun a b hab c => hab (by rw [c])) this
    have hds : kidsTo y.D y.D.length = true := kidsTo_of _ (fun i hi => by
      obtain ⟨p, hp1, hp2, _⟩ := tk_page (g5 (y.D.getD i 0) (by rw [getD_at hi]; exact List.getElem_mem hi))
      rw [kidAt, betw_i (show (2 : Int) ≤ y.D.getD i 0 by omega) (show y.D.getD i 0 ≤ 511 by omega), Bool.true_and]
      rw [Bool.not_eq_true', decide_eq_false_iff_not]
      intro c
      rw [getD_at hi] at c
      obtain ⟨j, hj, hje⟩ := List.getElem_of_mem c
      rw [List.length_take] at hj
      rw [List.getElem_take] at hje
      exact (List.pairwise_iff_getElem.1 hnd j i (by omega) hi (by omega)) hje)
    refine ⟨?_, hER, fun q hq => ?_⟩
    · show (decide (y.E.length = 0) && (keysTo y.K y.K.length && kidsTo y.D y.D.length && decide (y.K.length = y.D.length) && betw (y.D.length : Int) 1 16)) = true
      rw [hE, hks, hds, decide_eq_true hKl, betw_i (show (1 : Int) ≤ (y.D.length : Int) by omega) (show (y.D.length : Int) ≤ 16 by omega)]; rfl
    · rw [hKT] at hq
      obtain ⟨e, he, rfl⟩ := List.mem_map.1 hq
      exact (hoT.2 e he).2.1
end Go.Proofs.YtcglabmlhljkmaaGreat
end
section
/- tree: a root that was a child; a root that is written, in plain terms. -/
namespace Go.Proofs.YtcglabmlhljkmaaGreat
open Go Go.RowKit Go.Gv
set_option linter.unusedVariables false
set_option linter.unusedSimpArgs false

def nd0 : ND3 := ⟨[], [], []⟩
/-- a root that was a child -/
def lwN : Nat → VS → Int → VS × (Int × Nat) × Nat
  | 0, v, a => (v, (a, 0), 0)
  | 1, v, a => (v, (a, 1), 0)
  | h + 2, v, a => if 1 < (rdN v.S a false).D.length then (v, (a, h + 2), 0) else lwN (h + 1) (giN v a).1 ((rdN v.S a false).D.getD 0 0)
/-- all that is asked of what it reads -/
def lwG : Nat → VS → Int → Prop
  | 0, _, _ => True
  | 1, _, _ => True
  | h + 2, v, a => (-1000000 ≤ a ∧ a ≤ 1000000) ∧ (rdN v.S a false).e = 0 ∧ 1 ≤ (rdN v.S a false).D.length ∧ (rdN v.S a false).D.length ≤ 1000 ∧ (giN v a).2 = 0 ∧ lwG (h + 1) (giN v a).1 ((rdN v.S a false).D.getD 0 0)
theorem lwN_one {h : Nat} (v : VS) (a : Int) (hh : h ≤ 1) : lwN h v a = (v, (a, h), 0) := by
  rcases h with _ | _ | h
  · rfl
  · rfl
  · omega
/-- a root that is written, or whose child is it -/
def sgN (leaf : Bool) (v : VS) (xs : List ND3) (h : Nat) : VS × (Int × Nat) × Nat :=
  if xs.length = 0 ∨ szN leaf (xs.getD 0 nd0) = 0 then (v, (0, 0), 0)
  else if leaf = false ∧ szN leaf (xs.getD 0 nd0) = 1 then lwN (h - 1) v ((xs.getD 0 nd0).D.getD 0 0)
  else ((wrN v leaf (xs.getD 0 nd0)).1, ((wrN v leaf (xs.getD 0 nd0)).2.1, h), (wrN v leaf (xs.getD 0 nd0)).2.2)
def sgG (leaf : Bool) (v : VS) (xs : List ND3) (h : Nat) : Prop :=
  xs.length ≤ 1 ∧ (leaf = false → szN leaf (xs.getD 0 nd0) = 1 → 1 ≤ h ∧ lwG (h - 1) v ((xs.getD 0 nd0).D.getD 0 0))
/-- nodes of one height, and as many above them as must be -/
def roN : Nat → Bool → VS → List ND3 → Nat → VS × (Int × Nat) × Nat
  | 0, leaf, v, xs, h => if 5 < h then (v, (0, 0), 5) else sgN leaf v xs h
  | f + 1, leaf, v, xs, h =>
    if 1 < xs.length then
      if (unN leaf v xs).2.2 = 0 then roN f false (unN leaf v xs).1 (splitN false (unN leaf v xs).2.1) (h + 1) else ((unN leaf v xs).1, (0, 0), (unN leaf v xs).2.2)
    else if 5 < h then (v, (0, 0), 5) else sgN leaf v xs h
def roG : Nat → Bool → VS → List ND3 → Nat → Prop
  | 0, leaf, v, xs, h => xs.length ≤ 1 ∧ (h ≤ 5 → sgG leaf v xs h)
  | f + 1, leaf, v, xs, h => (1 < xs.length → (unN leaf v xs).2.2 = 0 → roG f false (unN leaf v xs).1 (splitN false (unN leaf v xs).2.1) (h + 1)) ∧ (xs.length ≤ 1 → h ≤ 5 → sgG leaf v xs h)
theorem roN_fin {f : Nat} {leaf : Bool} {v : VS} {xs : List ND3} {h : Nat} (hx : xs.length ≤ 1) : roN f leaf v xs h = if 5 < h then (v, (0, 0), 5) else sgN leaf v xs h := by
  cases f with
  | zero => rfl
  | succ f => rw [roN, if_neg (by omega)]
theorem roG_fin {f : Nat} {leaf : Bool} {v : VS} {xs : List ND3} {h : Nat} (hx : xs.length ≤ 1) (g : roG f leaf v xs h) (hh : h ≤ 5) : sgG leaf v xs h := by
  cases f with
  | zero => exact g.2 hh
  | succ f => exact g.2 hx hh
theorem splitN_E {x : ND3} (hx : okN false x) : ∀ y ∈ splitN false x, ∀ e ∈ y.E, entR e := fun y hy e he => by
  have h := (splN_sz _ x hx y hy).1
  rw [show y.E = [] from h.1] at he
  cases he
end Go.Proofs.YtcglabmlhljkmaaGreat
end
section
/- tree: nodes that are split, and nodes that are written one by one, over trees as they should be. -/
namespace Go.Proofs.YtcglabmlhljkmaaGreat
open Go Go.RowKit Go.Gv
set_option linter.unusedVariables false
set_option linter.unusedSimpArgs false

def entsX (S : DS) (h : Nat) (xs : List ND3) : List ENT := xs.flatMap (entX S h)
def pagsX (S : DS) (h : Nat) (xs : List ND3) : List Nat := xs.flatMap (pagX S h)
theorem cutL_sub {α : Type} (l : List α) (lo hi : Nat) : (cutL l lo hi).Sublist l := (List.take_sublist _ _).trans (List.drop_sublist _ _)
theorem cutL_map {α β : Type} (f : α → β) (l : List α) (lo hi : Nat) : cutL (l.map f) lo hi = (cutL l lo hi).map f := by
  rw [cutL, cutL, List.map_take, List.map_drop]
theorem part_ok {S : DS} {k : Nat} {mu : Nat → Nat} {h : Nat} {y : ND3} (g : okX S k mu h y) {lo hi : Nat} (h1 : lo < hi) (h2 : hi ≤ szN (decide (h = 0)) y) : okX S k mu h (partN (decide (h = 0)) y lo hi) := by
  obtain ⟨g3, g4, g5, g6⟩ := g
  refine ⟨partN_ok g3 h2, by rw [partN_sz h2]; omega, fun d hd => ?_, ?_⟩
  · by_cases h0 : h = 0
    · rw [decide_eq_true h0] at hd
      cases hd
    · rw [decide_eq_false h0] at hd
      exact g5 d ((cutL_sub _ _ _).subset hd)
  · by_cases h0 : h = 0
    · rw [decide_eq_true h0]; rfl
    · rw [decide_eq_false h0]
      show cutL y.K lo hi = (cutL y.D lo hi).map (headK S h)
      rw [g6, cutL_map]
theorem part_ents {S : DS} {h : Nat} {y : ND3} (g : okN (decide (h = 0)) y) {a : Nat} (ha : a ≤ szN (decide (h = 0)) y) :
    entX S h (partN (decide (h = 0)) y 0 a) ++ entX S h (partN (decide (h = 0)) y a (szN (decide (h = 0)) y)) = entX S h y ∧
    pagX S h (partN (decide (h = 0)) y 0 a) ++ pagX S h (partN (decide (h = 0)) y a (szN (decide (h = 0)) y)) = pagX S h y := by
  by_cases h0 : h = 0
  · subst h0
    obtain ⟨hK, hD⟩ := g
    have ha' : a ≤ y.E.length := ha
    refine ⟨?_, ?_⟩
    · show (cutL y.E 0 a ++ []) ++ (cutL y.E a y.E.length ++ []) = y.E ++ y.D.flatMap _
      rw [hD, List.flatMap_nil, List.append_nil, List.append_nil, List.append_nil, cutL_app _ _ ha']
    · show [] ++ [] = y.D.flatMap _
      rw [hD]; rfl
  · rw [decide_eq_false h0] at g ha ⊢
    obtain ⟨hE, hK⟩ := g
    have ha' : a ≤ y.D.length := ha
    refine ⟨?_, ?_⟩
    · show ([] ++ (cutL y.D 0 a).flatMap (wkE S h)) ++ ([] ++ (cutL y.D a y.D.length).flatMap (wkE S h)) = y.E ++ y.D.flatMap (wkE S h)
      rw [hE, List.nil_append, List.nil_append, List.nil_append, ← List.flatMap_append, cutL_app _ _ ha']
    · show (cutL y.D 0 a).flatMap (pgN S h) ++ (cutL y.D a y.D.length).flatMap (pgN S h) = y.D.flatMap (pgN S h)
      rw [← List.flatMap_append, cutL_app _ _ ha']
theorem spl_spec {S : DS} {k : Nat} {mu : Nat → Nat} {h : Nat} : ∀ (f : Nat) (y : ND3), okX S k mu h y → szN (decide (h = 0)) y ≤ f →
    (∀ z ∈ splN (decide (h = 0)) f y, okX S k mu h z) ∧ entsX S h (splN (decide (h = 0)) f y) = entX S h y ∧ pagsX S h (splN (decide (h = 0)) f y) = pagX S h y
  | 0, y, g, hf => by have := g.2.1; omega
  | f + 1, y, g, hf => by
    have hm := most_pos (decide (h = 0))
    have h1 := g.2.1
    rw [splN, if_neg (by omega)]
    split
    · rw [partN_all g.1]
      refine ⟨fun z hz => by rw [List.mem_singleton.1 hz]; exact g, by simp [entsX], by simp [pagsX]⟩
    · rename_i h2
      have a1 : (szN (decide (h = 0)) y + 1) / 2 ≤ szN (decide (h = 0)) y := by omega
      have s1 := partN_sz (leaf := decide (h = 0)) (x := y) (lo := 0) a1
      have s2 := partN_sz (leaf := decide (h = 0)) (x := y) (lo := (szN (decide (h = 0)) y + 1) / 2) (Nat.le_refl _)
      obtain ⟨p1, p2, p3⟩ := spl_spec f _ (part_ok g (lo := 0) (hi := (szN (decide (h = 0)) y + 1) / 2) (by omega) a1) (by omega)
      obtain ⟨q1, q2, q3⟩ := spl_spec f _ (part_ok g (lo := (szN (decide (h = 0)) y + 1) / 2) (by omega) (Nat.le_refl _)) (by omega)
      obtain ⟨r1, r2⟩ := part_ents (S := S) g.1 a1
      refine ⟨fun z hz => (List.mem_append.1 hz).elim (p1 z) (q1 z), ?_, ?_⟩
      · rw [entsX, List.flatMap_append]
        rw [entsX] at p2 q2
        rw [p2, q2]; exact r1
      · rw [pagsX, List.flatMap_append]
        rw [pagsX] at p3 q3
        rw [p3, q3]; exact r2
theorem spl_one {leaf : Bool} {y : ND3} (f : Nat) (h : okN leaf y) (h1 : 1 ≤ szN leaf y) (h2 : szN leaf y ≤ mostN leaf) : splN leaf (f + 1) y = [y] := by
  rw [splN, if_neg (by omega), if_pos h2, partN_all h]
/-- a node is split into one part, or into two -/
theorem split_two {leaf : Bool} {y : ND3} (h : okN leaf y) (h1 : 1 ≤ szN leaf y) (h2 : szN leaf y ≤ 2 * mostN leaf) :
    (szN leaf y ≤ mostN leaf ∧ splitN leaf y = [y]) ∨ (mostN leaf < szN leaf y ∧ ∃ a b, splitN leaf y = [a, b] ∧ szN leaf a = (szN leaf y + 1) / 2 ∧ szN leaf b = szN leaf y - (szN leaf y + 1) / 2) := by
  have hm := most_pos leaf
  by_cases hc : szN leaf y ≤ mostN leaf
  · exact .inl ⟨hc, spl_one _ h h1 hc⟩
  · refine .inr ⟨by omega, ?_⟩
    have a1 : (szN leaf y + 1) / 2 ≤ szN leaf y := by omega
    have s1 := partN_sz (leaf := leaf) (x := y) (lo := 0) a1
    have s2 := partN_sz (leaf := leaf) (x := y) (lo := (szN leaf y + 1) / 2) (Nat.le_refl _)
    have b1 := partN_ok (lo := 0) h a1
    have b2 := partN_ok (lo := (szN leaf y + 1) / 2) h (Nat.le_refl _)
    have key : ∀ n, n = szN leaf y → splN leaf (n + 1) y = [partN leaf y 0 ((szN leaf y + 1) / 2), partN leaf y ((szN leaf y + 1) / 2) (szN leaf y)] := fun n hn => by
      obtain ⟨f, rfl⟩ : ∃ f, n = f + 1 := ⟨n - 1, by omega⟩
      rw [splN, if_neg (by omega), if_neg hc, spl_one f b1 (by omega) (by omega), spl_one f b2 (by omega) (by omega)]
      rfl
    rw [Nat.sub_zero] at s1
    exact ⟨_, _, key _ rfl, s1, s2⟩
theorem VG.same_of {k : Nat} {U O : List Nat} {v v1 : VS} {t : Nat} (hv : VG k U O v) (ht : 2 ≤ t ∧ t < k) (htU : t ∉ U) (htO : t ∉ O) (hag : ∀ (j : Nat), j < k → j ≠ t → pgAt v1.S.V j = pgAt v.S.V j ∧ ∀ lf, rdN v1.S (j : Int) lf = rdN v.S (j : Int) lf) : same v.S v1.S (U ++ O) := fun p hp => by
  have hk := hv.k8
  rcases hp with hp | hp
  · refine hag p (by
      rcases List.mem_append.1 hp with q | q
      · exact (hv.m.rng p q).2
      · exact (hv.o.rng p q).2) (fun c => by
      subst c
      rcases List.mem_append.1 hp with q | q
      · exact htU q
      · exact htO q)
  · exact hag p (by omega) (by omega)
/-- nodes that are written one by one -/
theorem un_spec {k : Nat} {mu : Nat → Nat} {O : List Nat} {h : Nat} : ∀ (xs : List ND3) (v : VS) (U R : List Nat), VG k U O v → U.Perm (pagsX v.S h xs ++ R) →
    (∀ y ∈ xs, okX v.S k mu h y ∧ mu (h + 1) ≤ szN (decide (h = 0)) y ∧ szN (decide (h = 0)) y ≤ mostN (decide (h = 0))) → ordE (entsX v.S h xs) →
    (∃ (v' : VS) (D : List Int) (U' : List Nat), unGo (decide (h = 0)) v xs = (v', D, 0) ∧ VG k U' O v' ∧ U'.Perm (D.flatMap (pgN v'.S (h + 1)) ++ R) ∧ same v.S v'.S (U ++ O) ∧ D.length = xs.length ∧
      (∀ d ∈ D, tkG v'.S k mu (h + 1) (mu (h + 1)) d) ∧ D.flatMap (wkE v'.S (h + 1)) = entsX v.S h xs ∧ D.map (headK v'.S (h + 1)) = xs.map (least3 (decide (h = 0))) ∧ v'.S.W.length ≤ v.S.W.length + 4 * xs.length ∧ ∀ n, Fre k U O (n + xs.length) → Fre k U' O n)
    ∨ ((unGo (decide (h = 0)) v xs).2.2 = 5 ∧ ¬ Fre k U O xs.length)
  | [], v, U, R, hv, hU, hx, ho => .inl ⟨v, [], U, rfl, hv, hU, same.rfl, rfl, (fun d hd => by cases hd), rfl, rfl, Nat.le_refl _, fun n hn => hn⟩
  | y :: xs, v, U, R, hv, hU, hx, ho => by
    obtain ⟨hy1, hy2, hy3⟩ := hx y (List.mem_cons_self ..)
    have hUy : U.Perm (pagX v.S h y ++ (pagsX v.S h xs ++ R)) := by
      refine hU.trans ?_
      rw [pagsX, List.flatMap_cons, List.append_assoc]
      exact List.Perm.refl _
    have hnd : (pagX v.S h y).Nodup := (List.nodup_append.1 (hUy.nodup_iff.1 hv.m.nodup)).1
    have hoy : ordE (entX v.S h y) := ho.sub (by rw [entsX, List.flatMap_cons]; exact List.sublist_append_left _ _)
    have hoxs : ordE (entsX v.S h xs) := ho.sub (by show (xs.flatMap _).Sublist ((y :: xs).flatMap _); rw [List.flatMap_cons]; exact List.sublist_append_right _ _)
    obtain ⟨hr, hrE, hrK⟩ := nodeRight_of hy1 hv.k8.2 hy3 hoy hnd
    rcases hv.wr hr hrE hrK with ⟨t, v1, e1, hv1, ht, htU, htO, hrd, hW1, hag⟩ | ⟨e5, _, hn⟩
    · have hsm : same v.S v1.S (U ++ O) := hv.same_of ht htU htO hag
      have hsub : ∀ p ∈ pagX v.S h y, p ∈ U ++ O := fun p hp => List.mem_append_left _ (hUy.mem_iff.2 (List.mem_append_left _ hp))
      have hsubx : ∀ z ∈ xs, ∀ p ∈ pagX v.S h z, p ∈ U ++ O := fun z hz p hp => List.mem_append_left _ (hUy.mem_iff.2 (List.mem_append_right _ (List.mem_append_left _ (List.mem_flatMap.2 ⟨z, hz, hp⟩))))
      obtain ⟨w1, w2, w3⟩ := tk_written (m := mu (h + 1)) hy1 (hsm.sub hsub) hrd ht hy2 hy3
      have hxs := fun z (hz : z ∈ xs) => ok_same (hx z (List.mem_cons_of_mem _ hz)).1 (hsm.sub (hsubx z hz))
      have hpx : pagsX v1.S h xs = pagsX v.S h xs := flat_congr (fun z hz => (hxs z hz).2.2)
      have hex : entsX v1.S h xs = entsX v.S h xs := flat_congr (fun z hz => (hxs z hz).2.1)
      have hU1 : (t :: U).Perm (pagsX v1.S h xs ++ (t :: (pagX v.S h y ++ R))) := by
        rw [hpx]
        refine (List.Perm.cons t hUy).trans ?_
        refine List.Perm.trans ?_ List.perm_middle.symm
        refine List.Perm.cons t ?_
        rw [← List.append_assoc, ← List.append_assoc]
        exact List.Perm.append_right R List.perm_append_comm
      rcases un_spec xs v1 (t :: U) (t :: (pagX v.S h y ++ R)) hv1 hU1 (fun z hz => ⟨(hxs z hz).1, (hx z (List.mem_cons_of_mem _ hz)).2⟩) (by rw [hex]; exact hoxs) with ⟨v', D, U', e2, hv', hU', hsm', hDl, hDg, hDe, hDk, hW', hfr⟩ | ⟨e5, hn⟩
      · have htk := tk_same (h + 1) (mu (h + 1)) (t : Int) w1 (hsm'.sub (fun p hp => by
          rw [w3] at hp
          rcases List.mem_cons.1 hp with rfl | q
          · exact List.mem_append_left _ (List.mem_cons_self ..)
          · exact List.mem_append_left _ (List.mem_cons_of_mem _ (hUy.mem_iff.2 (List.mem_append_left _ q)))))
        have hk0 : headK v'.S (h + 1) (t : Int) = least3 (decide (h = 0)) y := by rw [headK, htk.2.1, w2, least_head hy1]
        refine .inl ⟨v', (t : Int) :: D, U', ?_, hv', ?_, ?_, ?_, ?_, ?_, ?_, ?_, ?_⟩
        · rw [unGo, e1, if_neg (by simp)]
          simp only [e2]
        · refine hU'.trans ?_
          rw [List.flatMap_cons, htk.2.2, w3]
          refine List.Perm.trans List.perm_middle ?_
          rw [List.cons_append, List.cons_append]
          refine List.Perm.cons t ?_
          rw [← List.append_assoc]
          exact List.Perm.append_right R List.perm_append_comm
        · exact hsm.trans (hsm'.sub (fun p hp => by
            rcases List.mem_append.1 hp with q | q
            · exact List.mem_append_left _ (List.mem_cons_of_mem _ q)
            · exact List.mem_append_right _ q))
        · rw [List.length_cons, List.length_cons, hDl]
        · intro d hd
          rcases List.mem_cons.1 hd with rfl | hd
          · exact htk.1
          · exact hDg d hd
        · rw [List.flatMap_cons, htk.2.1, w2, hDe, hex, entsX, entsX, List.flatMap_cons]
        · rw [List.map_cons, List.map_cons, hk0, hDk]
        · rw [List.length_cons]; omega
        · intro n hn
          rw [List.length_cons] at hn
          exact hfr n (Fre.cons (n := n + xs.length) hn)
      · refine .inr ⟨?_, ?_⟩
        · rw [unGo, e1, if_neg (by simp)]
          exact e5
        · intro c
          rw [List.length_cons] at c
          exact hn (Fre.cons c)
    · refine .inr ⟨?_, fun c => hn (c.le (by rw [List.length_cons]; omega))⟩
      rw [unGo, if_pos (by rw [e5]; decide)]
      exact e5
end Go.Proofs.YtcglabmlhljkmaaGreat
end
section
/- tree: what is asked of a tree into which an entry is put, in plain terms. -/
namespace Go.Proofs.YtcglabmlhljkmaaGreat
open Go Go.RowKit Go.Gv
set_option linter.unusedVariables false
set_option linter.unusedSimpArgs false

/-- all that is asked of a tree into which an entry is put behind all others -/
def inG : Nat → VS → Int → ENT → Prop
  | 0, _, _, _ => False
  | h + 1, v, a, x =>
    ((-1000000 ≤ a ∧ a ≤ 1000000) ∧ v.S.W.length ≤ 800000 ∧ (rdN v.S a (decide (h = 0))).e = 0 ∧ (rdN v.S a (decide (h = 0))).leaf = decide (h = 0) ∧
      okN (decide (h = 0)) ⟨(rdN v.S a (decide (h = 0))).E, (rdN v.S a (decide (h = 0))).K, (rdN v.S a (decide (h = 0))).D⟩ ∧
      (rdN v.S a (decide (h = 0))).E.length ≤ 1000 ∧ (rdN v.S a (decide (h = 0))).D.length ≤ 1000 ∧ (giN v a).2 = 0) ∧
    (h = 0 → idxE (rdN v.S a true).E x.key = (rdN v.S a true).E.length) ∧
    (h ≠ 0 → childN (rdN v.S a false).K x.key + 1 = (rdN v.S a false).D.length ∧ inG h (giN v a).1 ((rdN v.S a false).D.getD (childN (rdN v.S a false).K x.key) 0) x ∧
      (inN h (giN v a).1 ((rdN v.S a false).D.getD (childN (rdN v.S a false).K x.key) 0) x).1.ok ∧
      ((inN h (giN v a).1 ((rdN v.S a false).D.getD (childN (rdN v.S a false).K x.key) 0) x).2.2 = 0 →
        0 < (inN h (giN v a).1 ((rdN v.S a false).D.getD (childN (rdN v.S a false).K x.key) 0) x).2.1.length ∧
        (inN h (giN v a).1 ((rdN v.S a false).D.getD (childN (rdN v.S a false).K x.key) 0) x).2.1.length ≤ 1000 ∧
        (inN h (giN v a).1 ((rdN v.S a false).D.getD (childN (rdN v.S a false).K x.key) 0) x).1.S.W.length + 4 * (inN h (giN v a).1 ((rdN v.S a false).D.getD (childN (rdN v.S a false).K x.key) 0) x).2.1.length ≤ 800000 ∧
        ∀ y ∈ (inN h (giN v a).1 ((rdN v.S a false).D.getD (childN (rdN v.S a false).K x.key) 0) x).2.1, ∀ e ∈ y.E, entR e))
theorem inN_leaf {v : VS} {a : Int} {x : ENT} (he : (rdN v.S a true).e = 0) (hg : (giN v a).2 = 0) : inN 1 v a x = ((giN v a).1, splitN true ⟨(rdN v.S a true).E.take (idxE (rdN v.S a true).E x.key) ++ x :: (rdN v.S a true).E.drop (idxE (rdN v.S a true).E x.key), (rdN v.S a true).K, (rdN v.S a true).D⟩, 0) := by
  rw [inN, if_neg (by show ¬ (rdN v.S a true).e ≠ 0; omega), if_neg (by omega), if_pos rfl]
theorem inN_inner {v : VS} {a : Int} {x : ENT} {h : Nat} (he : (rdN v.S a false).e = 0) (hg : (giN v a).2 = 0) : inN (h + 2) v a x =
    if (inN (h + 1) (giN v a).1 ((rdN v.S a false).D.getD (childN (rdN v.S a false).K x.key) 0) x).2.2 = 0 then
      rpN (decide (h + 1 = 1)) (inN (h + 1) (giN v a).1 ((rdN v.S a false).D.getD (childN (rdN v.S a false).K x.key) 0) x).1 ⟨(rdN v.S a false).E, (rdN v.S a false).K, (rdN v.S a false).D⟩ (childN (rdN v.S a false).K x.key) 1 (inN (h + 1) (giN v a).1 ((rdN v.S a false).D.getD (childN (rdN v.S a false).K x.key) 0) x).2.1
    else ((inN (h + 1) (giN v a).1 ((rdN v.S a false).D.getD (childN (rdN v.S a false).K x.key) 0) x).1, [], (inN (h + 1) (giN v a).1 ((rdN v.S a false).D.getD (childN (rdN v.S a false).K x.key) 0) x).2.2) := by
  have hd : decide (h + 1 = 0) = false := rfl
  rw [inN, hd, if_neg (by omega), if_neg (by omega), if_neg (by omega)]
end Go.Proofs.YtcglabmlhljkmaaGreat
end
section
/- tree: an entry more, all of it, in plain terms. -/
namespace Go.Proofs.YtcglabmlhljkmaaGreat
open Go Go.RowKit Go.Gv
set_option linter.unusedVariables false
set_option linter.unusedSimpArgs false

/-- may an entry be put among others? -/
def chkE (E : List ENT) (x : ENT) : Nat := if E.any (fun y => decide (y.key = x.key)) = true then 11 else if E.any (fun y => meetsE x y) = true then 9 else 0
/-- an entry more -/
def iN (v : VS) (a : Int) (h : Nat) (x : ENT) : VS × (Int × Nat) × Nat :=
  if chkE (wkE v.S h a) x ≠ 0 then (v, (0, 0), chkE (wkE v.S h a) x)
  else if h = 0 then roN 1 true v [⟨[x], [], []⟩] 1
  else if (inN h v a x).2.2 = 0 then roN 1 (decide (h = 1)) (inN h v a x).1 (inN h v a x).2.1 h
  else ((inN h v a x).1, (0, 0), (inN h v a x).2.2)
/-- all that is asked -/
def iG (v : VS) (a : Int) (h : Nat) (x : ENT) : Prop :=
  (h ≤ 5 ∧ (h = 0 ∨ wkG v.S h a) ∧ (wkE v.S h a).length ≤ 100000 ∧ v.S.W.length ≤ 700000 ∧ entOk x = true ∧ entR x) ∧
  (chkE (wkE v.S h a) x = 0 → (h = 0 → roG 1 true v [⟨[x], [], []⟩] 1) ∧ (h ≠ 0 → inG h v a x ∧ (inN h v a x).1.ok ∧
    ((inN h v a x).2.2 = 0 → (inN h v a x).1.S.W.length ≤ 780000 ∧ (inN h v a x).2.1.length ≤ 1000 ∧ (∀ y ∈ (inN h v a x).2.1, ∀ e ∈ y.E, entR e) ∧ roG 1 (decide (h = 1)) (inN h v a x).1 (inN h v a x).2.1 h)))
theorem any_take {α : Type} (p : α → Bool) (l : List α) (d : α) (i : Nat) (h : i < l.length) : (l.take (i + 1)).any p = ((l.take i).any p || p (l.getD i d)) := by
  rw [List.take_add_one, List.any_append, List.getD_eq_getElem?_getD, List.getElem?_eq_getElem h]
  simp
theorem any_of {α : Type} {p : α → Bool} {l : List α} (d : α) {i : Nat} (h : i < l.length) (hp : p (l.getD i d) = true) : l.any p = true := by
  rw [List.any_eq_true]
  refine ⟨l.getD i d, ?_, hp⟩
  rw [List.getD_eq_getElem?_getD, List.getElem?_eq_getElem h]
  exact List.getElem_mem h
end Go.Proofs.YtcglabmlhljkmaaGreat
end
section
/- tree: an entry more among entries; which child it belongs to. -/
namespace Go.Proofs.YtcglabmlhljkmaaGreat
open Go Go.RowKit Go.Gv
set_option linter.unusedVariables false
set_option linter.unusedSimpArgs false

/-- an entry more among entries that rise -/
def insE (E : List ENT) (x : ENT) : List ENT := E.takeWhile (fun y => !lessK x.key y.key) ++ x :: E.dropWhile (fun y => !lessK x.key y.key)
theorem tw_left {α : Type} {p : α → Bool} : ∀ {A B : List α}, (∀ a ∈ A, p a = true) → (A ++ B).takeWhile p = A ++ B.takeWhile p ∧ (A ++ B).dropWhile p = B.dropWhile p
  | [], B, _ => ⟨rfl, rfl⟩
  | a :: A, B, h => by
    have ha := h a (List.mem_cons_self ..)
    obtain ⟨i1, i2⟩ := tw_left (B := B) (fun b hb => h b (List.mem_cons_of_mem _ hb))
    rw [List.cons_append, List.takeWhile_cons, List.dropWhile_cons, if_pos ha, if_pos ha, i1, i2]
    exact ⟨rfl, rfl⟩
theorem tw_right {α : Type} {p : α → Bool} : ∀ {B C : List α}, (∀ c ∈ C, p c = false) → (B ++ C).takeWhile p = B.takeWhile p ∧ (B ++ C).dropWhile p = B.dropWhile p ++ C
  | [], C, h => by
    cases C with
    | nil => exact ⟨rfl, rfl⟩
    | cons c C =>
      have hc := h c (List.mem_cons_self ..)
      rw [List.nil_append, List.takeWhile_cons, List.dropWhile_cons, if_neg (by rw [hc]; simp), if_neg (by rw [hc]; simp)]
      exact ⟨rfl, rfl⟩
  | b :: B, C, h => by
    obtain ⟨i1, i2⟩ := tw_right (B := B) h
    rw [List.cons_append, List.takeWhile_cons, List.dropWhile_cons, List.takeWhile_cons, List.dropWhile_cons, i1, i2]
    split <;> exact ⟨rfl, rfl⟩
theorem insE_app {A B C : List ENT} {x : ENT} (hA : ∀ a ∈ A, lessK x.key a.key = false) (hC : ∀ c ∈ C, lessK x.key c.key = true) : insE (A ++ (B ++ C)) x = A ++ (insE B x ++ C) := by
  obtain ⟨a1, a2⟩ := tw_left (p := fun y : ENT => !lessK x.key y.key) (A := A) (B := B ++ C) (fun a ha => by rw [hA a ha]; rfl)
  obtain ⟨c1, c2⟩ := tw_right (p := fun y : ENT => !lessK x.key y.key) (B := B) (C := C) (fun c hc => by rw [hC c hc]; rfl)
  rw [insE, a1, a2, c1, c2, insE]
  simp only [List.append_assoc, List.cons_append]
theorem insE_len (E : List ENT) (x : ENT) : (insE E x).length = E.length + 1 := by
  have := congrArg List.length (List.takeWhile_append_dropWhile (p := fun y : ENT => !lessK x.key y.key) (l := E))
  rw [List.length_append] at this
  rw [insE, List.length_append, List.length_cons]; omega
theorem idxGo_eq (E : List ENT) (x : ENT) : ∀ (f i : Nat), f + i = E.length + 1 → i ≤ E.length → idxGo E x.key f i = i + ((E.drop i).takeWhile (fun y => !lessK x.key y.key)).length
  | 0, i, h1, h2 => by omega
  | f + 1, i, h1, h2 => by
    rw [idxGo]
    by_cases hi : i < E.length
    · rw [if_pos hi]
      have hd : E.drop i = E.getD i ent0 :: E.drop (i + 1) := by rw [getD_at hi]; exact List.drop_eq_getElem_cons hi
      rw [hd, List.takeWhile_cons]
      cases hl : lessK x.key (E.getD i ent0).key with
      | true => rw [if_pos rfl, if_neg (by simp)]; rfl
      | false =>
        rw [if_neg (by simp), if_pos (by simp), idxGo_eq E x f (i + 1) (by omega) (by omega), List.length_cons]; omega
    · rw [if_neg hi, List.drop_eq_nil_of_le (by omega)]
      show E.length = i + 0
      omega
theorem idx_ins (E : List ENT) (x : ENT) : E.take (idxE E x.key) ++ x :: E.drop (idxE E x.key) = insE E x := by
  have h := idxGo_eq E x (E.length + 1) 0 rfl (Nat.zero_le _)
  rw [List.drop_zero, Nat.zero_add] at h
  have e : E.takeWhile (fun y => !lessK x.key y.key) ++ E.dropWhile (fun y => !lessK x.key y.key) = E := List.takeWhile_append_dropWhile
  have e1 : E.take (idxE E x.key) = E.takeWhile (fun y => !lessK x.key y.key) := by
    rw [idxE, h]
    have := List.take_left' (l₁ := E.takeWhile (fun y => !lessK x.key y.key)) (l₂ := E.dropWhile (fun y => !lessK x.key y.key)) rfl
    rw [e] at this
    exact this
  have e2 : E.drop (idxE E x.key) = E.dropWhile (fun y => !lessK x.key y.key) := by
    rw [idxE, h]
    have := List.drop_left' (l₁ := E.takeWhile (fun y => !lessK x.key y.key)) (l₂ := E.dropWhile (fun y => !lessK x.key y.key)) rfl
    rw [e] at this
    exact this
  rw [insE, e1, e2]
theorem childGo_spec (K : List KEY) (k : KEY) : ∀ (f i : Nat), K.length ≤ f + i → i < K.length → (i ≤ childGo K k f i ∧ childGo K k f i < K.length) ∧ (∀ j, i < j → j ≤ childGo K k f i → lessK k (K.getD j (0, 0)) = false) ∧ (childGo K k f i + 1 < K.length → lessK k (K.getD (childGo K k f i + 1) (0, 0)) = true)
  | 0, i, h1, h2 => by omega
  | f + 1, i, h1, h2 => by
    rw [childGo]
    split
    · rename_i hc
      obtain ⟨⟨a1, a2⟩, a3, a4⟩ := childGo_spec K k f (i + 1) (by omega) hc.1
      refine ⟨⟨by omega, a2⟩, fun j hj hj2 => ?_, a4⟩
      by_cases e : j = i + 1
      · rw [e]; exact hc.2
      · exact a3 j (by omega) hj2
    · rename_i hc
      refine ⟨⟨Nat.le_refl _, h2⟩, fun j hj hj2 => by omega, fun h => ?_⟩
      cases hl : lessK k (K.getD (i + 1) (0, 0)) with
      | true => rfl
      | false => exact absurd ⟨h, hl⟩ hc
theorem child_spec {K : List KEY} (k : KEY) (h : 0 < K.length) : childN K k < K.length ∧ (∀ j, 0 < j → j ≤ childN K k → lessK k (K.getD j (0, 0)) = false) ∧ (childN K k + 1 < K.length → lessK k (K.getD (childN K k + 1) (0, 0)) = true) := by
  obtain ⟨⟨_, a2⟩, a3, a4⟩ := childGo_spec K k K.length 0 (by omega) h
  exact ⟨a2, a3, a4⟩
theorem lessK_asym {a b : KEY} (h : lessK a b = true) : lessK b a = false := by
  cases hb : lessK b a with
  | false => rfl
  | true =>
    have := lessK_trans h hb
    unfold lessK at this
    simp at this
/-- around the child to which an entry belongs all entries are ahead, or behind -/
theorem child_sides {S : DS} {k : Nat} {mu : Nat → Nat} {h : Nat} {D : List Int} {K : List KEY} {x : ENT} (hD : ∀ d ∈ D, tkG S k mu h (mu h) d) (hK : K = D.map (headK S h)) (h0 : 0 < D.length) (ho : ordE (D.flatMap (wkE S h))) :
    ∃ d, D = D.take (childN K x.key) ++ d :: D.drop (childN K x.key + 1) ∧ D.getD (childN K x.key) 0 = d ∧ childN K x.key < D.length ∧
      (∀ y ∈ (D.take (childN K x.key)).flatMap (wkE S h), lessK x.key y.key = false) ∧ (∀ y ∈ (D.drop (childN K x.key + 1)).flatMap (wkE S h), lessK x.key y.key = true) := by
  have hKl : K.length = D.length := by rw [hK, List.length_map]
  obtain ⟨c1, c2, c3⟩ := child_spec (K := K) x.key (by omega)
  obtain ⟨q, hq⟩ : ∃ q, q = childN K x.key := ⟨_, rfl⟩
  rw [← hq] at c1 c2 c3 ⊢
  have hql : q < D.length := by omega
  have hKi : ∀ i, i < D.length → K.getD i (0, 0) = headK S h (D.getD i 0) := fun i hi => by
    rw [hK, getD_at (show i < (D.map (headK S h)).length by rw [List.length_map]; exact hi), List.getElem_map, getD_at hi]
  have hsplit : ∀ i, i < D.length → D = D.take i ++ D.getD i 0 :: D.drop (i + 1) := fun i hi => by
    rw [getD_at hi, List.getElem_cons_drop, List.take_append_drop]
  have hhead : ∀ i, i < D.length → ∃ e l, wkE S h (D.getD i 0) = e :: l ∧ K.getD i (0, 0) = e.key := fun i hi => by
    have hne := tk_ne h (mu h) (D.getD i 0) (hD _ (by rw [getD_at hi]; exact List.getElem_mem hi))
    cases hw : wkE S h (D.getD i 0) with
    | nil => exact absurd hw hne
    | cons e l => exact ⟨e, l, rfl, by rw [hKi i hi, headK, hw]; rfl⟩
  refine ⟨D.getD q 0, hsplit q hql, rfl, hql, ?_, ?_⟩
  · intro y hy
    rcases Nat.eq_zero_or_pos q with h00 | hpos
    · rw [h00, List.take_zero] at hy; cases hy
    · obtain ⟨e, l, he, hek⟩ := hhead q hql
      have hp := ho.1
      rw [hsplit q hql, List.flatMap_append, List.flatMap_cons, he, List.pairwise_append] at hp
      have h1 := after_less (hp.2.2 y hy e (List.mem_append_left _ (List.mem_cons_self ..)))
      have h2 := c2 q hpos (Nat.le_refl _)
      rw [hek] at h2
      cases hl : lessK x.key y.key with
      | false => rfl
      | true => rw [lessK_trans hl h1] at h2; cases h2
  · intro y hy
    by_cases hl : q + 1 < D.length
    · obtain ⟨e, l, he, hek⟩ := hhead (q + 1) hl
      have h2 := c3 (by omega)
      rw [hek] at h2
      have hp := ho.1
      rw [hsplit (q + 1) hl, List.flatMap_append, List.flatMap_cons, he, List.pairwise_append] at hp
      have hd : D.drop (q + 1) = D.getD (q + 1) 0 :: D.drop (q + 1 + 1) := by rw [getD_at hl]; exact List.drop_eq_getElem_cons hl
      rw [hd, List.flatMap_cons, he, List.cons_append] at hy
      rcases List.mem_cons.1 hy with rfl | hy
      · exact h2
      · have hp2 := hp.2.1
        rw [List.cons_append, List.pairwise_cons] at hp2
        exact lessK_trans h2 (after_less (hp2.1 y hy))
    · rw [List.drop_eq_nil_of_le (by omega)] at hy; cases hy
end Go.Proofs.YtcglabmlhljkmaaGreat
end
section
/- tree: what an entry more makes of a tree as it should be. -/
namespace Go.Proofs.YtcglabmlhljkmaaGreat
open Go Go.RowKit Go.Gv
set_option linter.unusedVariables false
set_option linter.unusedSimpArgs false

theorem rpN_ok {v : VS} (h : v.ok) (leaf : Bool) (x : ND3) (i c : Nat) (xs : List ND3) : (rpN leaf v x i c xs).1.ok := by
  have hu : (unN leaf v xs).1.ok := unGo_ok leaf xs h
  rw [rpN]; split <;> exact hu
theorem inN_ok : ∀ (h : Nat) {v : VS} (a : Int) (x : ENT), v.ok → (inN h v a x).1.ok
  | 0, v, a, x, hv => hv
  | h + 1, v, a, x, hv => by
    rw [inN]
    split
    · exact hv
    · split
      · exact giN_ok hv a
      · split
        · exact giN_ok hv a
        · have ih := inN_ok h ((rdN v.S a false).D.getD (childN (rdN v.S a false).K x.key) 0) x (giN_ok hv a)
          split
          · exact rpN_ok ih _ _ _ _ _
          · exact ih
/-- how small a part may be -/
def limN (h : Nat) : Nat := if h = 0 then 4 else 8
/-- what is in a tree's place, with an entry more -/
structure InR (k : Nat) (mu : Nat → Nat) (O : List Nat) (h m : Nat) (S0 : DS) (U R : List Nat) (E' : List ENT) (r : VS × List ND3 × Nat) : Prop where
  e : r.2.2 = 0
  vg : ∃ U', VG k U' O r.1 ∧ U'.Perm (pagsX r.1.S h r.2.1 ++ R) ∧ ∀ n, Fre k U O (n + 2 * h) → Fre k U' O n
  sm : same S0 r.1.S (R ++ O)
  ok : ∀ z ∈ r.2.1, okX r.1.S k mu h z ∧ m ≤ szN (decide (h = 0)) z ∧ szN (decide (h = 0)) z ≤ mostN (decide (h = 0))
  ents : entsX r.1.S h r.2.1 = E'
  len : 1 ≤ r.2.1.length ∧ r.2.1.length ≤ 2
  W : r.1.S.W.length ≤ S0.W.length + 8 * h
  two : r.2.1.length = 2 → ∀ z ∈ r.2.1, limN h ≤ szN (decide (h = 0)) z
theorem szN_false (x : ND3) : szN false x = x.D.length := rfl
/-- a node that is split, in the place of a node -/
theorem InR.split {k : Nat} {mu : Nat → Nat} {O : List Nat} {h m : Nat} {S0 : DS} {U R U' : List Nat} {v : VS} {y : ND3} (hv : VG k U' O v) (hp : U'.Perm (pagX v.S h y ++ R)) (hf : ∀ n, Fre k U O (n + 2 * h) → Fre k U' O n) (sm : same S0 v.S (R ++ O)) (g : okX v.S k mu h y)
    (hs : szN (decide (h = 0)) y ≤ 2 * mostN (decide (h = 0))) (hm : m ≤ szN (decide (h = 0)) y) (hl : m ≤ limN h) (hW : v.S.W.length ≤ S0.W.length + 8 * h) : InR k mu O h m S0 U R (entX v.S h y) (v, splitN (decide (h = 0)) y, 0) := by
  have hsp := spl_spec (szN (decide (h = 0)) y + 1) y g (Nat.le_succ _)
  have heq : splN (decide (h = 0)) (szN (decide (h = 0)) y + 1) y = splitN (decide (h = 0)) y := rfl
  rw [heq] at hsp
  obtain ⟨s1, s2, s3⟩ := hsp
  have hmost : (mostN (decide (h = 0)) + 1 + 1) / 2 = limN h ∧ mostN (decide (h = 0)) + 1 - (mostN (decide (h = 0)) + 1 + 1) / 2 = limN h ∨ (mostN (decide (h = 0)) + 1 + 1) / 2 = limN h + 1 ∧ mostN (decide (h = 0)) + 1 - (mostN (decide (h = 0)) + 1 + 1) / 2 = limN h := by
    by_cases h0 : h = 0
    · rw [decide_eq_true h0, limN, if_pos h0]; left; decide
    · rw [decide_eq_false h0, limN, if_neg h0]; right; decide
  refine ⟨rfl, ⟨U', hv, by show U'.Perm (pagsX v.S h (splitN (decide (h = 0)) y) ++ R); rw [s3]; exact hp, hf⟩, sm, fun z hz => ?_, s2, ?_, hW, fun h2 z hz => ?_⟩
  · rcases split_two g.1 g.2.1 hs with ⟨c1, c2⟩ | ⟨c1, a, b, c2, c3, c4⟩
    · have hz' : z ∈ splitN (decide (h = 0)) y := hz
      rw [c2] at hz'
      rw [List.mem_singleton.1 hz']
      exact ⟨g, hm, c1⟩
    · have hz' : z ∈ splitN (decide (h = 0)) y := hz
      refine ⟨s1 z hz', ?_⟩
      rw [c2] at hz'
      rcases List.mem_cons.1 hz' with rfl | hz'
      · rw [c3]; omega
      · rw [List.mem_singleton.1 hz', c4]; omega
  · show 1 ≤ (splitN (decide (h = 0)) y).length ∧ (splitN (decide (h = 0)) y).length ≤ 2
    rcases split_two g.1 g.2.1 hs with ⟨c1, c2⟩ | ⟨c1, a, b, c2, c3, c4⟩
    · rw [c2]; exact ⟨Nat.le_refl 1, by show 1 ≤ 2; decide⟩
    · rw [c2]; exact ⟨by show 1 ≤ 2; decide, Nat.le_refl 2⟩
  · rcases split_two g.1 g.2.1 hs with ⟨c1, c2⟩ | ⟨c1, a, b, c2, c3, c4⟩
    · have h2' : (splitN (decide (h = 0)) y).length = 2 := h2
      rw [c2] at h2'
      cases h2'
    · have hz' : z ∈ splitN (decide (h = 0)) y := hz
      rw [c2] at hz'
      rcases List.mem_cons.1 hz' with rfl | hz'
      · rw [c3]; omega
      · rw [List.mem_singleton.1 hz', c4]; omega
theorem insE_ord_sub {A B C : List ENT} {x : ENT} (h : ordE (A ++ (insE B x ++ C))) : ordE (insE B x) := h.sub ((List.sublist_append_left _ _).trans (List.sublist_append_right _ _))
theorem insE_sub (E : List ENT) (x : ENT) : E.Sublist (insE E x) := by
  have e : E.takeWhile (fun y => !lessK x.key y.key) ++ E.dropWhile (fun y => !lessK x.key y.key) = E := List.takeWhile_append_dropWhile
  conv => lhs; rw [← e]
  exact List.Sublist.append (List.Sublist.refl _) (List.sublist_cons_self _ _)
theorem perm3 (A B C : List Nat) : (A ++ (B ++ C)).Perm (B ++ (A ++ C)) := by
  rw [← List.append_assoc, ← List.append_assoc]
  exact List.Perm.append_right C List.perm_append_comm
set_option maxHeartbeats 4000000 in
theorem in_spec {k : Nat} {mu : Nat → Nat} {O : List Nat} {x : ENT} (hmu : ∀ h, mu (h + 1) ≤ limN h) : ∀ (h m : Nat) (v : VS) (a : Int) (U R : List Nat), m ≤ limN h → VG k U O v → tkG v.S k mu (h + 1) m a → U.Perm (pgN v.S (h + 1) a ++ R) → ordE (insE (wkE v.S (h + 1) a) x) →
    InR k mu O h m v.S U R (insE (wkE v.S (h + 1) a) x) (inN (h + 1) v a x) ∨ ((inN (h + 1) v a x).2.2 = 5 ∧ ¬ Fre k U O (2 * h))
  | 0, m, v, a, U, R, hml, hv, g, hU, ho => by
    have gx := tkG_okX g
    obtain ⟨⟨p, hp, hp2⟩, g1, g2, g3, ⟨g4, g5, g6⟩, g7, g8⟩ := g
    obtain ⟨hK, hD⟩ := g3
    have hd1 : decide ((0 : Nat) = 0) = true := rfl
    rw [hd1] at g1 g4 g5 g6 hK hD
    have hK' : (rdN v.S a true).K = [] := hK
    have hD' : (rdN v.S a true).D = [] := hD
    have hEl : (rdN v.S a true).E.length ≤ 7 := g6
    have hEm : m ≤ (rdN v.S a true).E.length := g5
    have hpg : pgN v.S (0 + 1) a = [p] := by
      show a.toNat :: (rdN v.S a true).D.flatMap _ = [p]
      rw [hD', hp]; rfl
    have hwk : wkE v.S (0 + 1) a = (rdN v.S a true).E := by
      show (rdN v.S a true).E ++ (rdN v.S a true).D.flatMap _ = _
      rw [hD', List.flatMap_nil, List.append_nil]
    rw [hpg] at hU
    have hU : U.Perm (p :: R) := hU
    obtain ⟨v', e1, e2, hv'⟩ := (hv.perm hU).give
    rw [← hp] at e1
    have hin := inN_leaf (x := x) g1 (by rw [e1])
    rw [idx_ins, e1, hK', hD'] at hin
    rw [hwk] at ho ⊢
    rw [hin]
    refine .inl ?_
    have hg : okX v'.S k mu 0 ⟨insE (rdN v.S a true).E x, [], []⟩ := ⟨⟨rfl, rfl⟩, by show 1 ≤ (insE (rdN v.S a true).E x).length; rw [insE_len]; omega, (fun d hd => by cases hd), rfl⟩
    have hsz : szN true ⟨insE (rdN v.S a true).E x, [], []⟩ = (rdN v.S a true).E.length + 1 := insE_len _ _
    have hr := InR.split (m := m) (S0 := v.S) (U := U) hv' (List.Perm.refl _) (fun n hn => (hn.le (Nat.le_add_right _ _)).sub (fun i hi => hU.mem_iff.2 (List.mem_cons_of_mem _ hi))) (by rw [e2]; exact same.rfl) hg (by rw [hd1, hsz]; show _ ≤ 2 * 7; omega) (by rw [hd1, hsz]; omega) hml (by rw [e2]; exact Nat.le_refl _)
    have he : entX v'.S 0 ⟨insE (rdN v.S a true).E x, [], []⟩ = insE (rdN v.S a true).E x := by
      show _ ++ [] = _
      rw [List.append_nil]
    rw [he] at hr
    exact hr
  | h + 1, m, v, a, U, R, hml, hv, g, hU, ho => by
    have gx := tkG_okX g
    obtain ⟨⟨p, hp, hp2⟩, g1, g2, g3, ⟨g4, g5, g6⟩, g7, g8⟩ := g
    have hd1 : decide (h + 1 = 0) = false := rfl
    have hdd : decide (h + 1 = 1) = decide (h = 0) := decide_eq_decide.2 (by omega)
    rw [hd1] at g1 g3 g4 g5 g6 g7 g8
    obtain ⟨hE, hKD⟩ := g3
    obtain ⟨N, hN⟩ : ∃ N, N = rdN v.S a false := ⟨_, rfl⟩
    have hpg : pgN v.S (h + 1 + 1) a = p :: N.D.flatMap (pgN v.S (h + 1)) := by
      show a.toNat :: (rdN v.S a false).D.flatMap _ = _
      rw [hN, hp]; rfl
    have hE' : (rdN v.S a false).E = [] := hE
    have hwk : wkE v.S (h + 1 + 1) a = N.D.flatMap (wkE v.S (h + 1)) := by
      show (rdN v.S a false).E ++ (rdN v.S a false).D.flatMap _ = _
      rw [hE', hN, List.nil_append]
    rw [hpg] at hU
    have hU : U.Perm (p :: (N.D.flatMap (pgN v.S (h + 1)) ++ R)) := hU
    obtain ⟨v1, e1, e2, hv1⟩ := (hv.perm hU).give
    rw [← hp] at e1
    have hin := inN_inner (h := h) (x := x) g1 (by rw [e1])
    rw [e1] at hin
    rw [← hN] at hin g4 g5 g6 g7 g8 hE hKD hE'
    rw [hwk] at ho ⊢
    have hDl : 0 < N.D.length := g4
    have hDm : m ≤ N.D.length := g5
    have hD16 : N.D.length ≤ 16 := g6
    obtain ⟨d, hsp, hdq, hql, hA, hC⟩ := child_sides (x := x) g7 g8 hDl (ho.sub (insE_sub _ _))
    obtain ⟨q, hq⟩ : ∃ q, q = childN N.K x.key := ⟨_, rfl⟩
    rw [← hq] at hsp hdq hql hA hC hin
    rw [hdq, hdd] at hin
    obtain ⟨D1, hD1⟩ : ∃ D1, D1 = N.D.take q := ⟨_, rfl⟩
    obtain ⟨D2, hD2⟩ : ∃ D2, D2 = N.D.drop (q + 1) := ⟨_, rfl⟩
    have hD1l : D1.length = q := by rw [hD1, List.length_take]; omega
    have hD2l : D2.length = N.D.length - (q + 1) := by rw [hD2, List.length_drop]
    rw [← hD1, ← hD2] at hsp
    rw [← hD1] at hA
    rw [← hD2] at hC
    have hdm : d ∈ N.D := by rw [hsp]; exact List.mem_append_right _ (List.mem_cons_self ..)
    have hm1 : ∀ z ∈ D1, z ∈ N.D := fun z hz => by rw [hsp]; exact List.mem_append_left _ hz
    have hm2 : ∀ z ∈ D2, z ∈ N.D := fun z hz => by rw [hsp]; exact List.mem_append_right _ (List.mem_cons_of_mem _ hz)
    have hEs : N.D.flatMap (wkE v.S (h + 1)) = D1.flatMap (wkE v.S (h + 1)) ++ (wkE v.S (h + 1) d ++ D2.flatMap (wkE v.S (h + 1))) := by
      conv => lhs; rw [hsp]
      rw [List.flatMap_append, List.flatMap_cons]
    have hPs : N.D.flatMap (pgN v.S (h + 1)) = D1.flatMap (pgN v.S (h + 1)) ++ (pgN v.S (h + 1) d ++ D2.flatMap (pgN v.S (h + 1))) := by
      conv => lhs; rw [hsp]
      rw [List.flatMap_append, List.flatMap_cons]
    have hins : insE (N.D.flatMap (wkE v.S (h + 1))) x = D1.flatMap (wkE v.S (h + 1)) ++ (insE (wkE v.S (h + 1) d) x ++ D2.flatMap (wkE v.S (h + 1))) := by
      rw [hEs]; exact insE_app hA hC
    rw [hins] at ho ⊢
    obtain ⟨Rd, hRd⟩ : ∃ Rd, Rd = D1.flatMap (pgN v.S (h + 1)) ++ (D2.flatMap (pgN v.S (h + 1)) ++ R) := ⟨_, rfl⟩
    have hU1 : (N.D.flatMap (pgN v.S (h + 1)) ++ R).Perm (pgN v.S (h + 1) d ++ Rd) := by
      rw [hPs, hRd, List.append_assoc, List.append_assoc]
      exact perm3 _ _ _
    have hfr1 : ∀ n, Fre k U O n → Fre k (N.D.flatMap (pgN v.S (h + 1)) ++ R) O n := fun n hn => hn.sub (fun i hi => hU.mem_iff.2 (List.mem_cons_of_mem _ hi))
    have ih := in_spec (x := x) hmu h (mu (h + 1)) v1 d _ Rd (hmu h) hv1 (by rw [e2]; exact g7 d hdm) (by rw [e2]; exact hU1) (by rw [e2]; exact insE_ord_sub ho)
    rw [e2] at ih
    rcases ih with ih | ⟨h5, hn⟩
    · obtain ⟨V, hV⟩ : ∃ V, V = inN (h + 1) v1 d x := ⟨_, rfl⟩
      rw [← hV] at ih hin
      rw [if_pos ih.e] at hin
      obtain ⟨U2, hv2, hU2, hfr2⟩ := ih.vg
      have hov : ordE (entsX V.1.S h V.2.1) := by rw [ih.ents]; exact insE_ord_sub ho
      rcases un_spec V.2.1 V.1 U2 Rd hv2 hU2 (fun y hy => ih.ok y hy) hov with ⟨v3, D', U3, e3, hv3, hU3, hsm3, hl3, hg3, he3, hk3, hW3, hfr3⟩ | ⟨h5, hn⟩
      · have hun : unN (decide (h = 0)) V.1 V.2.1 = (v3, ⟨[], V.2.1.map (least3 (decide (h = 0))), D'⟩, 0) := by
          rw [unN, e3]; simp only [if_true]
        rw [rpN, hun, if_pos rfl] at hin
        simp only at hin
        have hsR : same v.S v3.S (Rd ++ O) := ih.sm.trans (hsm3.sub (fun b hb => by
          rcases List.mem_append.1 hb with c | c
          · exact List.mem_append_left _ (hU2.mem_iff.2 (List.mem_append_right _ c))
          · exact List.mem_append_right _ c))
        have hts : ∀ z, (z ∈ D1 ∨ z ∈ D2) → tkG v3.S k mu (h + 1) (mu (h + 1)) z ∧ wkE v3.S (h + 1) z = wkE v.S (h + 1) z ∧ pgN v3.S (h + 1) z = pgN v.S (h + 1) z := by
          intro z hz
          refine tk_same (h + 1) (mu (h + 1)) z (g7 z (hz.elim (hm1 z) (hm2 z))) (hsR.sub (fun b hb => ?_))
          rw [hRd]
          rcases hz with hz | hz
          · exact List.mem_append_left _ (List.mem_append_left _ (List.mem_flatMap.2 ⟨z, hz, hb⟩))
          · exact List.mem_append_left _ (List.mem_append_right _ (List.mem_append_left _ (List.mem_flatMap.2 ⟨z, hz, hb⟩)))
        have hf1 : D1.flatMap (wkE v3.S (h + 1)) = D1.flatMap (wkE v.S (h + 1)) := flat_congr (fun z hz => (hts z (.inl hz)).2.1)
        have hf2 : D2.flatMap (wkE v3.S (h + 1)) = D2.flatMap (wkE v.S (h + 1)) := flat_congr (fun z hz => (hts z (.inr hz)).2.1)
        have hp1 : D1.flatMap (pgN v3.S (h + 1)) = D1.flatMap (pgN v.S (h + 1)) := flat_congr (fun z hz => (hts z (.inl hz)).2.2)
        have hp3 : D2.flatMap (pgN v3.S (h + 1)) = D2.flatMap (pgN v.S (h + 1)) := flat_congr (fun z hz => (hts z (.inr hz)).2.2)
        have hh1 : D1.map (headK v3.S (h + 1)) = D1.map (headK v.S (h + 1)) := List.map_congr_left (fun z hz => by rw [headK, headK, (hts z (.inl hz)).2.1])
        have hh2 : D2.map (headK v3.S (h + 1)) = D2.map (headK v.S (h + 1)) := List.map_congr_left (fun z hz => by rw [headK, headK, (hts z (.inr hz)).2.1])
        rw [← hD1, ← hD2, hE'] at hin
        have hKt : N.K.take q = D1.map (headK v3.S (h + 1)) := by rw [hh1, g8, hD1, List.map_take]
        have hKd : N.K.drop (q + 1) = D2.map (headK v3.S (h + 1)) := by rw [hh2, g8, hD2, List.map_drop]
        rw [hKt, hKd, ← hk3] at hin
        obtain ⟨Z, hZ⟩ : ∃ Z : ND3, Z = ⟨[], D1.map (headK v3.S (h + 1)) ++ D'.map (headK v3.S (h + 1)) ++ D2.map (headK v3.S (h + 1)), D1 ++ D' ++ D2⟩ := ⟨_, rfl⟩
        rw [← hZ] at hin
        have hZD : Z.D = D1 ++ D' ++ D2 := by rw [hZ]
        have hZl : Z.D.length = N.D.length - 1 + V.2.1.length := by
          rw [hZD, List.length_append, List.length_append, hl3, hD1l, hD2l]; omega
        have hlen := ih.len
        have hgZ : okX v3.S k mu (h + 1) Z := by
          refine ⟨?_, ?_, ?_, ?_⟩
          · rw [hd1]
            refine ⟨by rw [hZ], ?_⟩
            rw [hZ]
            simp only [List.length_append, List.length_map]
          · rw [hd1, szN_false, hZl]; omega
          · intro z hz
            rw [hZD] at hz
            rcases List.mem_append.1 hz with hz | hz
            · rcases List.mem_append.1 hz with hz | hz
              · exact (hts z (.inl hz)).1
              · exact hg3 z hz
            · exact (hts z (.inr hz)).1
          · rw [hZ]
            simp only [List.map_append]
        have hpZ : pagX v3.S (h + 1) Z = D1.flatMap (pgN v.S (h + 1)) ++ (D'.flatMap (pgN v3.S (h + 1)) ++ D2.flatMap (pgN v.S (h + 1))) := by
          rw [pagX, hZD, List.flatMap_append, List.flatMap_append, hp1, hp3, List.append_assoc]
        have heZ : entX v3.S (h + 1) Z = D1.flatMap (wkE v.S (h + 1)) ++ (insE (wkE v.S (h + 1) d) x ++ D2.flatMap (wkE v.S (h + 1))) := by
          have hZE : Z.E = [] := by rw [hZ]
          rw [entX, hZE, List.nil_append, hZD, List.flatMap_append, List.flatMap_append, hf1, hf2, he3, ih.ents, List.append_assoc]
        have hUZ : U3.Perm (pagX v3.S (h + 1) Z ++ R) := by
          refine hU3.trans ?_
          rw [hpZ, hRd, List.append_assoc, List.append_assoc]
          exact perm3 _ _ _
        have hWi := ih.W
        have hr := InR.split (m := m) (S0 := v.S) (U := U) (R := R) hv3 hUZ (fun n hn => hfr3 n (hfr2 _ (hfr1 _ (hn.le (by omega))))) (hsR.sub (fun b hb => by
          rcases List.mem_append.1 hb with c | c
          · rw [hRd]; exact List.mem_append_left _ (List.mem_append_right _ (List.mem_append_right _ c))
          · exact List.mem_append_right _ c)) hgZ (by rw [hd1, szN_false, hZl]; show _ ≤ 2 * 16; omega) (by rw [hd1, szN_false, hZl]; omega) hml (by omega)
        rw [heZ] at hr
        rw [hin]
        exact .inl hr
      · refine .inr ⟨?_, fun c => hn ((hfr2 2 (hfr1 _ (c.le (by omega)))).le ih.len.2)⟩
        have hu5 : (unN (decide (h = 0)) V.1 V.2.1).2.2 = 5 := h5
        rw [hin, rpN, if_neg (by rw [hu5]; decide)]
        exact hu5
    · refine .inr ⟨?_, fun c => hn (hfr1 _ (c.le (by omega)))⟩
      rw [hin, if_neg (by rw [h5]; decide)]
      exact h5
end Go.Proofs.YtcglabmlhljkmaaGreat
end
section
/- tree: the laws' views and entries, in plain terms. -/
namespace Go.Proofs.YtcglabmlhljkmaaGreat
open Go Go.RowKit Go.Gv
set_option linter.unusedVariables false
set_option linter.unusedSimpArgs false

/-- a view of an empty disk -/
def v0 (k : Nat) : VS := ⟨DS.new k, 1, newM k, newM k⟩
theorem v0_ok {k : Nat} (h : 8 ≤ k ∧ k ≤ 512) : (v0 k).ok := ⟨DS.new_ok k h.2, by show 1 < _; decide, newM_length k, newM_length k⟩
theorem v0_p {k : Nat} (h : 8 ≤ k ∧ k ≤ 512) : (v0 k).m.p = (((v0 k).S.A.length / 256 : Nat) : Int) := by
  have h1 : (v0 k).S.A.length = k * 256 := DS.new_len k
  rw [h1, Nat.mul_div_cancel _ (by decide : 0 < 256)]
  exact newM_p k h
/-- the entry of an act -/
def entA (s t l p : Int) : ENT := ⟨(s % 18446744073709551616 % 4, t % 1000), t % 1000 + l % 18446744073709551616 % 6, 2 + p % 18446744073709551616 % 400, 1 + p % 18446744073709551616 % 900, 1 + l % 18446744073709551616 % 200, p % 18446744073709551616 % 16, (p % 4294967296).toNat⟩
theorem entA_R (s t l p : Int) : entR (entA s t l p) := by
  refine ⟨?_, ?_, ?_⟩
  · show i64R (t % 1000)
    unfold i64R; omega
  · show i64R (t % 1000 + l % 18446744073709551616 % 6)
    unfold i64R; omega
  · show (p % 4294967296).toNat < 4294967296
    omega
theorem betw_of {n low high : Int} (h1 : low ≤ n) (h2 : n ≤ high) : betw n low high = true := by
  rw [betw, decide_eq_true h1, decide_eq_true h2]; rfl
theorem entA_ok (s t l p : Int) : entOk (entA s t l p) = true := by
  have h1 : keyOk (entA s t l p).key = true := betw_of (by show 0 ≤ s % 18446744073709551616 % 4; omega) (by show s % 18446744073709551616 % 4 ≤ 4294967295; omega)
  have h2 : decide ((entA s t l p).key.2 ≤ (entA s t l p).fin) = true := decide_eq_true (by show t % 1000 ≤ t % 1000 + l % 18446744073709551616 % 6; omega)
  have h3 : betw (entA s t l p).addr 2 511 = true := betw_of (by show 2 ≤ 2 + p % 18446744073709551616 % 400; omega) (by show 2 + p % 18446744073709551616 % 400 ≤ 511; omega)
  have h4 : betw (entA s t l p).len 1 65535 = true := betw_of (by show 1 ≤ 1 + p % 18446744073709551616 % 900; omega) (by show 1 + p % 18446744073709551616 % 900 ≤ 65535; omega)
  have h5 : decide ((entA s t l p).addr + pagesE (entA s t l p).len ≤ 512) = true := decide_eq_true (by
    show 2 + p % 18446744073709551616 % 400 + (1 + p % 18446744073709551616 % 900 + 255) / 256 ≤ 512; omega)
  have h6 : betw (entA s t l p).count 1 200 = true := betw_of (by show 1 ≤ 1 + l % 18446744073709551616 % 200; omega) (by show 1 + l % 18446744073709551616 % 200 ≤ 200; omega)
  have h7 : betw (entA s t l p).codec 0 15 = true := betw_of (by show 0 ≤ p % 18446744073709551616 % 16; omega) (by show p % 18446744073709551616 % 16 ≤ 15; omega)
  rw [entOk, h1, h2, h3, h4, h5, h6, h7]; rfl
end Go.Proofs.YtcglabmlhljkmaaGreat
end
section
/- tree: what an entry more makes of all of a tree. -/
namespace Go.Proofs.YtcglabmlhljkmaaGreat
open Go Go.RowKit Go.Gv
set_option linter.unusedVariables false
set_option linter.unusedSimpArgs false

def rmin (h : Nat) : Nat := if h = 1 then 1 else 2
/-- a tree as it should be, in a view; R are the other pages in use -/
structure TI (k : Nat) (mu : Nat → Nat) (O R : List Nat) (v : VS) (a : Int) (h : Nat) (E : List ENT) : Prop where
  vg : VG k (pgN v.S h a ++ R) O v
  g : h = 0 ∨ tkG v.S k mu h (rmin h) a
  ents : wkE v.S h a = E
  ord : ordE E
  h5 : h ≤ 5
/-- a root that is written -/
theorem sg_spec {k : Nat} {mu : Nat → Nat} {O U R : List Nat} {h : Nat} {v : VS} {y : ND3} (hv : VG k U O v) (hU : U.Perm (pagX v.S h y ++ R)) (g : okX v.S k mu h y) (hm : rmin (h + 1) ≤ szN (decide (h = 0)) y) (hM : szN (decide (h = 0)) y ≤ mostN (decide (h = 0))) (ho : ordE (entX v.S h y)) (h5 : h + 1 ≤ 5) :
    sgG (decide (h = 0)) v [y] (h + 1) ∧ ((∃ v' t, sgN (decide (h = 0)) v [y] (h + 1) = (v', (((t : Nat) : Int), h + 1), 0) ∧ TI k mu O R v' (t : Int) (h + 1) (entX v.S h y) ∧ v'.S.W.length ≤ v.S.W.length + 4 ∧ same v.S v'.S (R ++ O))
      ∨ ((sgN (decide (h = 0)) v [y] (h + 1)).2.2 = 5 ∧ ¬ Fre k U O 1)) := by
  have hy0 : ([y] : List ND3).getD 0 nd0 = y := rfl
  have hno : ¬ (decide (h = 0) = false ∧ szN (decide (h = 0)) y = 1) := fun c => by
    have h0 : h ≠ 0 := of_decide_eq_false c.1
    rw [rmin, if_neg (by omega)] at hm
    omega
  have hs1 := g.2.1
  refine ⟨⟨Nat.le_refl _, fun c1 c2 => by rw [hy0] at c2; exact absurd ⟨c1, c2⟩ hno⟩, ?_⟩
  have e : sgN (decide (h = 0)) v [y] (h + 1) = ((wrN v (decide (h = 0)) y).1, ((wrN v (decide (h = 0)) y).2.1, h + 1), (wrN v (decide (h = 0)) y).2.2) := by
    rw [sgN, hy0, if_neg (fun c => c.elim (fun q => by cases q) (by omega)), if_neg hno]
  rw [e]
  have hnd := (List.nodup_append.1 (hU.nodup_iff.1 hv.m.nodup)).1
  obtain ⟨hr, hrE, hrK⟩ := nodeRight_of g hv.k8.2 hM ho hnd
  rcases hv.wr hr hrE hrK with ⟨t, v1, e1, hv1, ht, htU, htO, hrd, hW1, hag⟩ | ⟨e5, _, hn⟩
  · rw [e1]
    have hsm : same v.S v1.S (U ++ O) := hv.same_of ht htU htO hag
    obtain ⟨w1, w2, w3⟩ := tk_written (m := rmin (h + 1)) g (hsm.sub (fun p hp => List.mem_append_left _ (hU.mem_iff.2 (List.mem_append_left _ hp)))) hrd ht hm hM
    refine .inl ⟨v1, t, rfl, ⟨?_, .inr w1, w2, ho, h5⟩, hW1, hsm.sub (fun p hp => ?_)⟩
    · rw [w3]
      exact hv1.perm (List.Perm.cons t hU)
    · rcases List.mem_append.1 hp with q | q
      · exact List.mem_append_left _ (hU.mem_iff.2 (List.mem_append_right _ q))
      · exact List.mem_append_right _ q
  · exact .inr ⟨e5, hn⟩
theorem ro_one (leaf : Bool) (v : VS) (xs : List ND3) (h : Nat) : roN 1 leaf v xs h = if 1 < xs.length then (if (unN leaf v xs).2.2 = 0 then roN 0 false (unN leaf v xs).1 (splitN false (unN leaf v xs).2.1) (h + 1) else ((unN leaf v xs).1, (0, 0), (unN leaf v xs).2.2)) else if 5 < h then (v, (0, 0), 5) else sgN leaf v xs h := rfl
/-- nodes of one height, and as many above them as must be -/
theorem ro_spec {k : Nat} {mu : Nat → Nat} {O U R : List Nat} {h : Nat} {v : VS} {xs : List ND3} (hmu : mu (h + 1) ≤ limN h) (hv : VG k U O v) (hU : U.Perm (pagsX v.S h xs ++ R)) (hok : ∀ z ∈ xs, okX v.S k mu h z ∧ rmin (h + 1) ≤ szN (decide (h = 0)) z ∧ szN (decide (h = 0)) z ≤ mostN (decide (h = 0)))
    (ho : ordE (entsX v.S h xs)) (hl : 1 ≤ xs.length ∧ xs.length ≤ 2) (h2 : xs.length = 2 → ∀ z ∈ xs, limN h ≤ szN (decide (h = 0)) z) (h5 : h + 1 ≤ 5) :
    roG 1 (decide (h = 0)) v xs (h + 1) ∧ ((∃ v' t H, roN 1 (decide (h = 0)) v xs (h + 1) = (v', (((t : Nat) : Int), H), 0) ∧ TI k mu O R v' (t : Int) H (entsX v.S h xs) ∧ v'.S.W.length ≤ v.S.W.length + 12 ∧ same v.S v'.S (R ++ O) ∧ 1 ≤ H)
      ∨ ((roN 1 (decide (h = 0)) v xs (h + 1)).2.2 = 5 ∧ (¬ Fre k U O 3 ∨ h = 4))) := by
  have hsmR : ∀ {S S' : DS}, same S S' (U ++ O) → same S S' (R ++ O) := fun s => s.sub (fun p hp => by
    rcases List.mem_append.1 hp with q | q
    · exact List.mem_append_left _ (hU.mem_iff.2 (List.mem_append_right _ q))
    · exact List.mem_append_right _ q)
  by_cases hl1 : xs.length = 1
  · obtain ⟨y, rfl⟩ : ∃ y, xs = [y] := ⟨xs[0]'(by omega), List.ext_getElem (by simp [hl1]) (fun i p q => by simp at q; subst q; rfl)⟩
    obtain ⟨g1, g2, g3⟩ := hok y (List.mem_singleton.2 rfl)
    have hp1 : pagsX v.S h [y] = pagX v.S h y := by simp [pagsX]
    have he1 : entsX v.S h [y] = entX v.S h y := by simp [entsX]
    rw [hp1] at hU
    rw [he1] at ho ⊢
    obtain ⟨sG, hsg⟩ := sg_spec hv hU g1 g2 g3 ho h5
    refine ⟨⟨fun c => absurd c (by show ¬ 1 < 1; decide), fun _ _ => sG⟩, ?_⟩
    rw [roN_fin (by show 1 ≤ 1; decide), if_neg (by omega)]
    rcases hsg with ⟨v', t, e, ti, hW, hsm⟩ | ⟨e5, hn⟩
    · exact .inl ⟨v', t, h + 1, e, ti, by omega, hsm, by omega⟩
    · exact .inr ⟨e5, .inl (fun c => hn (c.le (by decide)))⟩
  · have hl2 : xs.length = 2 := by omega
    have hxm : ∀ z ∈ xs, okX v.S k mu h z ∧ mu (h + 1) ≤ szN (decide (h = 0)) z ∧ szN (decide (h = 0)) z ≤ mostN (decide (h = 0)) := fun z hz => ⟨(hok z hz).1, Nat.le_trans hmu (h2 hl2 z hz), (hok z hz).2.2⟩
    rcases un_spec xs v U R hv hU hxm ho with ⟨v1, D, U', e1, hv1, hU1, hsm1, hDl, hDg, hDe, hDk, hW1, hfr1⟩ | ⟨e5, hn⟩
    · have hun : unN (decide (h = 0)) v xs = (v1, ⟨[], xs.map (least3 (decide (h = 0))), D⟩, 0) := by
        rw [unN, e1]; simp only [if_true]
      obtain ⟨X, hX⟩ : ∃ X : ND3, X = ⟨[], xs.map (least3 (decide (h = 0))), D⟩ := ⟨_, rfl⟩
      rw [← hX] at hun
      have hXD : X.D = D := by rw [hX]
      have hd1 : decide (h + 1 = 0) = false := rfl
      have hXs : szN false X = 2 := by rw [szN_false, hXD, hDl, hl2]
      have hgX : okX v1.S k mu (h + 1) X := by
        refine ⟨?_, ?_, ?_, ?_⟩
        · rw [hd1]
          refine ⟨by rw [hX], ?_⟩
          rw [hX]
          simp only [List.length_map]
          exact hDl.symm
        · rw [hd1, hXs]; decide
        · intro z hz
          rw [hXD] at hz
          exact hDg z hz
        · rw [hX]
          exact hDk.symm
      have hsp : splitN false X = [X] := by
        rcases split_two (leaf := false) (y := X) hgX.1 (by rw [hXs]; decide) (by rw [hXs]; decide) with ⟨_, c⟩ | ⟨c, _⟩
        · exact c
        · rw [hXs] at c; exact absurd c (by decide)
      have hpX : pagX v1.S (h + 1) X = D.flatMap (pgN v1.S (h + 1)) := by rw [pagX, hXD]
      have heX : entX v1.S (h + 1) X = entsX v.S h xs := by
        have hXE : X.E = [] := by rw [hX]
        rw [entX, hXE, List.nil_append, hXD, hDe]
      have hro : roN 1 (decide (h = 0)) v xs (h + 1) = roN 0 false v1 [X] (h + 2) := by
        rw [ro_one, if_pos (by omega), hun, if_pos rfl]
        simp only [hsp]
      have hsg : h + 2 ≤ 5 → _ := fun q => sg_spec (R := R) (h := h + 1) hv1 (by rw [hpX]; exact hU1) hgX (by rw [hd1, hXs]; show rmin (h + 2) ≤ 2; rw [rmin, if_neg (by omega)]; exact Nat.le_refl _) (by rw [hd1, hXs]; decide) (by rw [heX]; exact ho) q
      have hG0 : roG 0 false v1 [X] (h + 2) := ⟨by show 1 ≤ 1; decide, fun q => (hsg q).1⟩
      refine ⟨⟨fun _ _ => by rw [hun]; simp only [hsp]; exact hG0, fun c => by omega⟩, ?_⟩
      rw [hro, roN]
      by_cases hb : 5 < h + 2
      · rw [if_pos hb]
        exact .inr ⟨rfl, .inr (by omega)⟩
      · rw [if_neg hb]
        rcases (hsg (by omega)).2 with ⟨v', t, e, ti, hW, hsm⟩ | ⟨e5, hn⟩
        · rw [heX] at ti
          refine .inl ⟨v', t, h + 2, e, ti, by rw [hl2] at hW1; omega, (hsmR hsm1).trans hsm, by omega⟩
        · exact .inr ⟨e5, .inl (fun c => hn (hfr1 1 (by rw [hl2]; exact c)))⟩
    · have hu5 : (unN (decide (h = 0)) v xs).2.2 = 5 := e5
      refine ⟨⟨fun _ c => by rw [hu5] at c; exact absurd c (by decide), fun c => by omega⟩, .inr ⟨?_, .inl (fun c => hn (by rw [hl2]; exact c.le (by decide)))⟩⟩
      rw [ro_one, if_pos (by omega), if_neg (by rw [hu5]; decide)]
      exact hu5
end Go.Proofs.YtcglabmlhljkmaaGreat
end
