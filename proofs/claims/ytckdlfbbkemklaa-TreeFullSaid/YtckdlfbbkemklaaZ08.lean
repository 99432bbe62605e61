/- Texts of this claim, put together: TvPlain14, TvPlain15, TvPlain16, TvPlain17, TvPlain18, TvPlain9, TfPlain2, TvWalk, GvYield2, WkWalk, WkWalk3, GvMix4, TvWalk7, TvWalk2. -/
import Derived.Test.YtckdlfbbkemklaaZ07
import Derived.Test.YtckdlfbbkemklaaZ01
import Derived.Test.YtckdlfbbkemklaaZ00
section
/- tree: what an entry more makes of a tree as it should be. -/
namespace Go.Proofs.Ytckdlfbbkemklaa
open Go Go.RowKit Go.Gv
set_option linter.unusedVariables false
set_option linter.unusedSimpArgs false

theorem rpN_ok {v : VS} (h : v.ok) (leaf : Bool) (x : ND3) (i c : Nat) (xs : List ND3) : (rpN leaf v x i c xs).1.ok := by
  have hu : (unN leaf v xs).1.ok := unGo_ok leaf xs h
  rw [rpN]; split <;> exact hu
theorem inN_ok : ∀ (h : Nat) {v : VS} (a : Int) (x : ENT), v.ok → (inN h v a x).1.ok
  | 0, v, a, x, hv => hv
  | h + 1, v, a, x, hv => by
    rw [inN]
    split
    · exact hv
    · split
      · exact giN_ok hv a
      · split
        · exact giN_ok hv a
        · have ih := inN_ok h ((rdN v.S a false).D.getD (childN (rdN v.S a false).K x.key) 0) x (giN_ok hv a)
          split
          · exact rpN_ok ih _ _ _ _ _
          · exact ih
/-- how small a part may be -/
def limN (h : Nat) : Nat := if h = 0 then 4 else 8
/-- what is in a tree's place, with an entry more -/
structure InR (k : Nat) (mu : Nat → Nat) (O : List Nat) (h m : Nat) (S0 : DS) (U R : List Nat) (E' : List ENT) (r : VS × List ND3 × Nat) : Prop where
  e : r.2.2 = 0
  vg : ∃ U', VG k U' O r.1 ∧ U'.Perm (pagsX r.1.S h r.2.1 ++ R) ∧ ∀ n, Fre k U O (n + 2 * h) → Fre k U' O n
  sm : same S0 r.1.S (R ++ O)
  ok : ∀ z ∈ r.2.1, okX r.1.S k mu h z ∧ m ≤ szN (decide (h = 0)) z ∧ szN (decide (h = 0)) z ≤ mostN (decide (h = 0))
  ents : entsX r.1.S h r.2.1 = E'
  len : 1 ≤ r.2.1.length ∧ r.2.1.length ≤ 2
  W : r.1.S.W.length ≤ S0.W.length + 8 * h
  two : r.2.1.length = 2 → ∀ z ∈ r.2.1, limN h ≤ szN (decide (h = 0)) z
theorem szN_false (x : ND3) : szN false x = x.D.length := rfl
/-- a node that is split, in the place of a node -/
theorem InR.split {k : Nat} {mu : Nat → Nat} {O : List Nat} {h m : Nat} {S0 : DS} {U R U' : List Nat} {v : VS} {y : ND3} (hv : VG k U' O v) (hp : U'.Perm (pagX v.S h y ++ R)) (hf : ∀ n, Fre k U O (n + 2 * h) → Fre k U' O n) (sm : same S0 v.S (R ++ O)) (g : okX v.S k mu h y)
    (hs : szN (decide (h = 0)) y ≤ 2 * mostN (decide (h = 0))) (hm : m ≤ szN (decide (h = 0)) y) (hl : m ≤ limN h) (hW : v.S.W.length ≤ S0.W.length + 8 * h) : InR k mu O h m S0 U R (entX v.S h y) (v, splitN (decide (h = 0)) y, 0) := by
  have hsp := spl_spec (szN (decide (h = 0)) y + 1) y g (Nat.le_succ _)
  have heq : splN (decide (h = 0)) (szN (decide (h = 0)) y + 1) y = splitN (decide (h = 0)) y := rfl
  rw [heq] at hsp
  obtain ⟨s1, s2, s3⟩ := hsp
  have hmost : (mostN (decide (h = 0)) + 1 + 1) / 2 = limN h ∧ mostN (decide (h = 0)) + 1 - (mostN (decide (h = 0)) + 1 + 1) / 2 = limN h ∨ (mostN (decide (h = 0)) + 1 + 1) / 2 = limN h + 1 ∧ mostN (decide (h = 0)) + 1 - (mostN (decide (h = 0)) + 1 + 1) / 2 = limN h := by
    by_cases h0 : h = 0
    · rw [decide_eq_true h0, limN, if_pos h0]; left; decide
    · rw [decide_eq_false h0, limN, if_neg h0]; right; decide
  refine ⟨rfl, ⟨U', hv, by show U'.Perm (pagsX v.S h (splitN (decide (h = 0)) y) ++ R); rw [s3]; exact hp, hf⟩, sm, fun z hz => ?_, s2, ?_, hW, fun h2 z hz => ?_⟩
  · rcases split_two g.1 g.2.1 hs with ⟨c1, c2⟩ | ⟨c1, a, b, c2, c3, c4⟩
    · have hz' : z ∈ splitN (decide (h = 0)) y := hz
      rw [c2] at hz'
      rw [List.mem_singleton.1 hz']
      exact ⟨g, hm, c1⟩
    · have hz' : z ∈ splitN (decide (h = 0)) y := hz
      refine ⟨s1 z hz', ?_⟩
      rw [c2] at hz'
      rcases List.mem_cons.1 hz' with rfl | hz'
      · rw [c3]; omega
      · rw [List.mem_singleton.1 hz', c4]; omega
  · show 1 ≤ (splitN (decide (h = 0)) y).length ∧ (splitN (decide (h = 0)) y).length ≤ 2
    rcases split_two g.1 g.2.1 hs with ⟨c1, c2⟩ | ⟨c1, a, b, c2, c3, c4⟩
    · rw [c2]; exact ⟨Nat.le_refl 1, by show 1 ≤ 2; decide⟩
    · rw [c2]; exact ⟨by show 1 ≤ 2; decide, Nat.le_refl 2⟩
  · rcases split_two g.1 g.2.1 hs with ⟨c1, c2⟩ | ⟨c1, a, b, c2, c3, c4⟩
    · have h2' : (splitN (decide (h = 0)) y).length = 2 := h2
      rw [c2] at h2'
      cases h2'
    · have hz' : z ∈ splitN (decide (h = 0)) y := hz
      rw [c2] at hz'
      rcases List.mem_cons.1 hz' with rfl | hz'
      · rw [c3]; omega
      · rw [List.mem_singleton.1 hz', c4]; omega
theorem insE_ord_sub {A B C : List ENT} {x : ENT} (h : ordE (A ++ (insE B x ++ C))) : ordE (insE B x) := h.sub ((List.sublist_append_left _ _).trans (List.sublist_append_right _ _))
theorem insE_sub (E : List ENT) (x : ENT) : E.Sublist (insE E x) := by
  have e : E.takeWhile (fun y => !lessK x.key y.key) ++ E.dropWhile (fun y => !lessK x.key y.key) = E := List.takeWhile_append_dropWhile
  conv => lhs; rw [← e]
  exact List.Sublist.append (List.Sublist.refl _) (List.sublist_cons_self _ _)
theorem perm3 (A B C : List Nat) : (A ++ (B ++ C)).Perm (B ++ (A ++ C)) := by
  rw [← List.append_assoc, ← List.append_assoc]
  exact List.Perm.append_right C List.perm_append_comm
set_option maxHeartbeats 4000000 in
theorem in_spec {k : Nat} {mu : Nat → Nat} {O : List Nat} {x : ENT} (hmu : ∀ h, mu (h + 1) ≤ limN h) : ∀ (h m : Nat) (v : VS) (a : Int) (U R : List Nat), m ≤ limN h → VG k U O v → tkG v.S k mu (h + 1) m a → U.Perm (pgN v.S (h + 1) a ++ R) → ordE (insE (wkE v.S (h + 1) a) x) →
    InR k mu O h m v.S U R (insE (wkE v.S (h + 1) a) x) (inN (h + 1) v a x) ∨ ((inN (h + 1) v a x).2.2 = 5 ∧ ¬ Fre k U O (2 * h))
  | 0, m, v, a, U, R, hml, hv, g, hU, ho => by
    have gx := tkG_okX g
    obtain ⟨⟨p, hp, hp2⟩, g1, g2, g3, ⟨g4, g5, g6⟩, g7, g8⟩ := g
    obtain ⟨hK, hD⟩ := g3
    have hd1 : decide ((0 : Nat) = 0) = true := rfl
    rw [hd1] at g1 g4 g5 g6 hK hD
    have hK' : (rdN v.S a true).K = [] := hK
    have hD' : (rdN v.S a true).D = [] := hD
    have hEl : (rdN v.S a true).E.length ≤ 7 := g6
    have hEm : m ≤ (rdN v.S a true).E.length := g5
    have hpg : pgN v.S (0 + 1) a = [p] := by
      show a.toNat :: (rdN v.S a true).D.flatMap _ = [p]
      rw [hD', hp]; rfl
    have hwk : wkE v.S (0 + 1) a = (rdN v.S a true).E := by
      show (rdN v.S a true).E ++ (rdN v.S a true).D.flatMap _ = _
      rw [hD', List.flatMap_nil, List.append_nil]
    rw [hpg] at hU
    have hU : U.Perm (p :: R) := hU
    obtain ⟨v', e1, e2, hv'⟩ := (hv.perm hU).give
    rw [← hp] at e1
    have hin := inN_leaf (x := x) g1 (by rw [e1])
    rw [idx_ins, e1, hK', hD'] at hin
    rw [hwk] at ho ⊢
    rw [hin]
    refine .inl ?_
    have hg : okX v'.S k mu 0 ⟨insE (rdN v.S a true).E x, [], []⟩ := ⟨⟨rfl, rfl⟩, by show 1 ≤ (insE (rdN v.S a true).E x).length; rw [insE_len]; omega, (fun d hd => by cases hd), rfl⟩
    have hsz : szN true ⟨insE (rdN v.S a true).E x, [], []⟩ = (rdN v.S a true).E.length + 1 := insE_len _ _
    have hr := InR.split (m := m) (S0 := v.S) (U := U) hv' (List.Perm.refl _) (fun n hn => (hn.le (Nat.le_add_right _ _)).sub (fun i hi => hU.mem_iff.2 (List.mem_cons_of_mem _ hi))) (fun q _ lf => by rw [e2]) hg (by rw [hd1, hsz]; show _ ≤ 2 * 7; omega) (by rw [hd1, hsz]; omega) hml (by rw [e2]; exact Nat.le_refl _)
    have he : entX v'.S 0 ⟨insE (rdN v.S a true).E x, [], []⟩ = insE (rdN v.S a true).E x := by
      show _ ++ [] = _
      rw [List.append_nil]
    rw [he] at hr
    exact hr
  | h + 1, m, v, a, U, R, hml, hv, g, hU, ho => by
    have gx := tkG_okX g
    obtain ⟨⟨p, hp, hp2⟩, g1, g2, g3, ⟨g4, g5, g6⟩, g7, g8⟩ := g
    have hd1 : decide (h + 1 = 0) = false := rfl
    have hdd : decide (h + 1 = 1) = decide (h = 0) := decide_eq_decide.2 (by omega)
    rw [hd1] at g1 g3 g4 g5 g6 g7 g8
    obtain ⟨hE, hKD⟩ := g3
    obtain ⟨N, hN⟩ : ∃ N, N = rdN v.S a false := ⟨_, rfl⟩
    have hpg : pgN v.S (h + 1 + 1) a = p :: N.D.flatMap (pgN v.S (h + 1)) := by
      show a.toNat :: (rdN v.S a false).D.flatMap _ = _
      rw [hN, hp]; rfl
    have hE' : (rdN v.S a false).E = [] := hE
    have hwk : wkE v.S (h + 1 + 1) a = N.D.flatMap (wkE v.S (h + 1)) := by
      show (rdN v.S a false).E ++ (rdN v.S a false).D.flatMap _ = _
      rw [hE', hN, List.nil_append]
    rw [hpg] at hU
    have hU : U.Perm (p :: (N.D.flatMap (pgN v.S (h + 1)) ++ R)) := hU
    obtain ⟨v1, e1, e2, hv1⟩ := (hv.perm hU).give
    rw [← hp] at e1
    have hin := inN_inner (h := h) (x := x) g1 (by rw [e1])
    rw [e1] at hin
    rw [← hN] at hin g4 g5 g6 g7 g8 hE hKD hE'
    rw [hwk] at ho ⊢
    have hDl : 0 < N.D.length := g4
    have hDm : m ≤ N.D.length := g5
    have hD16 : N.D.length ≤ 16 := g6
    obtain ⟨d, hsp, hdq, hql, hA, hC⟩ := child_sides (x := x) g7 g8 hDl (ho.sub (insE_sub _ _))
    obtain ⟨q, hq⟩ : ∃ q, q = childN N.K x.key := ⟨_, rfl⟩
    rw [← hq] at hsp hdq hql hA hC hin
    rw [hdq, hdd] at hin
    obtain ⟨D1, hD1⟩ : ∃ D1, D1 = N.D.take q := ⟨_, rfl⟩
    obtain ⟨D2, hD2⟩ : ∃ D2, D2 = N.D.drop (q + 1) := ⟨_, rfl⟩
    have hD1l : D1.length = q := by rw [hD1, List.length_take]; omega
    have hD2l : D2.length = N.D.length - (q + 1) := by rw [hD2, List.length_drop]
    rw [← hD1, ← hD2] at hsp
    rw [← hD1] at hA
    rw [← hD2] at hC
    have hdm : d ∈ N.D := by rw [hsp]; exact List.mem_append_right _ (List.mem_cons_self ..)
    have hm1 : ∀ z ∈ D1, z ∈ N.D := fun z hz => by rw [hsp]; exact List.mem_append_left _ hz
    have hm2 : ∀ z ∈ D2, z ∈ N.D := fun z hz => by rw [hsp]; exact List.mem_append_right _ (List.mem_cons_of_mem _ hz)
    have hEs : N.D.flatMap (wkE v.S (h + 1)) = D1.flatMap (wkE v.S (h + 1)) ++ (wkE v.S (h + 1) d ++ D2.flatMap (wkE v.S (h + 1))) := by
      conv => lhs; rw [hsp]
      rw [List.flatMap_append, List.flatMap_cons]
    have hPs : N.D.flatMap (pgN v.S (h + 1)) = D1.flatMap (pgN v.S (h + 1)) ++ (pgN v.S (h + 1) d ++ D2.flatMap (pgN v.S (h + 1))) := by
      conv => lhs; rw [hsp]
      rw [List.flatMap_append, List.flatMap_cons]
    have hins : insE (N.D.flatMap (wkE v.S (h + 1))) x = D1.flatMap (wkE v.S (h + 1)) ++ (insE (wkE v.S (h + 1) d) x ++ D2.flatMap (wkE v.S (h + 1))) := by
      rw [hEs]; exact insE_app hA hC
    rw [hins] at ho ⊢
    obtain ⟨Rd, hRd⟩ : ∃ Rd, Rd = D1.flatMap (pgN v.S (h + 1)) ++ (D2.flatMap (pgN v.S (h + 1)) ++ R) := ⟨_, rfl⟩
    have hU1 : (N.D.flatMap (pgN v.S (h + 1)) ++ R).Perm (pgN v.S (h + 1) d ++ Rd) := by
      rw [hPs, hRd, List.append_assoc, List.append_assoc]
      exact perm3 _ _ _
    have hfr1 : ∀ n, Fre k U O n → Fre k (N.D.flatMap (pgN v.S (h + 1)) ++ R) O n := fun n hn => hn.sub (fun i hi => hU.mem_iff.2 (List.mem_cons_of_mem _ hi))
    have ih := in_spec (x := x) hmu h (mu (h + 1)) v1 d _ Rd (hmu h) hv1 (by rw [e2]; exact g7 d hdm) (by rw [e2]; exact hU1) (by rw [e2]; exact insE_ord_sub ho)
    rw [e2] at ih
    rcases ih with ih | ⟨h5, hn⟩
    · obtain ⟨V, hV⟩ : ∃ V, V = inN (h + 1) v1 d x := ⟨_, rfl⟩
      rw [← hV] at ih hin
      rw [if_pos ih.e] at hin
      obtain ⟨U2, hv2, hU2, hfr2⟩ := ih.vg
      have hov : ordE (entsX V.1.S h V.2.1) := by rw [ih.ents]; exact insE_ord_sub ho
      rcases un_spec V.2.1 V.1 U2 Rd hv2 hU2 (fun y hy => ih.ok y hy) hov with ⟨v3, D', U3, e3, hv3, hU3, hsm3, hl3, hg3, he3, hk3, hW3, hfr3⟩ | ⟨h5, hn⟩
      · have hun : unN (decide (h = 0)) V.1 V.2.1 = (v3, ⟨[], V.2.1.map (least3 (decide (h = 0))), D'⟩, 0) := by
          rw [unN, e3]; simp only [if_true]
        rw [rpN, hun, if_pos rfl] at hin
        simp only at hin
        have hsR : same v.S v3.S (Rd ++ O) := by
          intro b hb lf
          have hb2 : b ∈ U2 ++ O := by
            rcases List.mem_append.1 hb with c | c
            · exact List.mem_append_left _ (hU2.mem_iff.2 (List.mem_append_right _ c))
            · exact List.mem_append_right _ c
          rw [hsm3 b hb2 lf, ih.sm b hb lf]
        have hts : ∀ z, (z ∈ D1 ∨ z ∈ D2) → tkG v3.S k mu (h + 1) (mu (h + 1)) z ∧ wkE v3.S (h + 1) z = wkE v.S (h + 1) z ∧ pgN v3.S (h + 1) z = pgN v.S (h + 1) z := by
          intro z hz
          refine tk_same (h + 1) (mu (h + 1)) z (g7 z (hz.elim (hm1 z) (hm2 z))) (hsR.sub (fun b hb => ?_))
          rw [hRd]
          rcases hz with hz | hz
          · exact List.mem_append_left _ (List.mem_append_left _ (List.mem_flatMap.2 ⟨z, hz, hb⟩))
          · exact List.mem_append_left _ (List.mem_append_right _ (List.mem_append_left _ (List.mem_flatMap.2 ⟨z, hz, hb⟩)))
        have hf1 : D1.flatMap (wkE v3.S (h + 1)) = D1.flatMap (wkE v.S (h + 1)) := flat_congr (fun z hz => (hts z (.inl hz)).2.1)
        have hf2 : D2.flatMap (wkE v3.S (h + 1)) = D2.flatMap (wkE v.S (h + 1)) := flat_congr (fun z hz => (hts z (.inr hz)).2.1)
        have hp1 : D1.flatMap (pgN v3.S (h + 1)) = D1.flatMap (pgN v.S (h + 1)) := flat_congr (fun z hz => (hts z (.inl hz)).2.2)
        have hp3 : D2.flatMap (pgN v3.S (h + 1)) = D2.flatMap (pgN v.S (h + 1)) := flat_congr (fun z hz => (hts z (.inr hz)).2.2)
        have hh1 : D1.map (headK v3.S (h + 1)) = D1.map (headK v.S (h + 1)) := List.map_congr_left (fun z hz => by rw [headK, headK, (hts z (.inl hz)).2.1])
        have hh2 : D2.map (headK v3.S (h + 1)) = D2.map (headK v.S (h + 1)) := List.map_congr_left (fun z hz => by rw [headK, headK, (hts z (.inr hz)).2.1])
        rw [← hD1, ← hD2, hE'] at hin
        have hKt : N.K.take q = D1.map (headK v3.S (h + 1)) := by rw [hh1, g8, hD1, List.map_take]
        have hKd : N.K.drop (q + 1) = D2.map (headK v3.S (h + 1)) := by rw [hh2, g8, hD2, List.map_drop]
        rw [hKt, hKd, ← hk3] at hin
        obtain ⟨Z, hZ⟩ : ∃ Z : ND3, Z = ⟨[], D1.map (headK v3.S (h + 1)) ++ D'.map (headK v3.S (h + 1)) ++ D2.map (headK v3.S (h + 1)), D1 ++ D' ++ D2⟩ := ⟨_, rfl⟩
        rw [← hZ] at hin
        have hZD : Z.D = D1 ++ D' ++ D2 := by rw [hZ]
        have hZl : Z.D.length = N.D.length - 1 + V.2.1.length := by
          rw [hZD, List.length_append, List.length_append, hl3, hD1l, hD2l]; omega
        have hlen := ih.len
        have hgZ : okX v3.S k mu (h + 1) Z := by
          refine ⟨?_, ?_, ?_, ?_⟩
          · rw [hd1]
            refine ⟨by rw [hZ], ?_⟩
            rw [hZ]
            simp only [List.length_append, List.length_map]
          · rw [hd1, szN_false, hZl]; omega
          · intro z hz
            rw [hZD] at hz
            rcases List.mem_append.1 hz with hz | hz
            · rcases List.mem_append.1 hz with hz | hz
              · exact (hts z (.inl hz)).1
              · exact hg3 z hz
            · exact (hts z (.inr hz)).1
          · rw [hZ]
            simp only [List.map_append]
        have hpZ : pagX v3.S (h + 1) Z = D1.flatMap (pgN v.S (h + 1)) ++ (D'.flatMap (pgN v3.S (h + 1)) ++ D2.flatMap (pgN v.S (h + 1))) := by
          rw [pagX, hZD, List.flatMap_append, List.flatMap_append, hp1, hp3, List.append_assoc]
        have heZ : entX v3.S (h + 1) Z = D1.flatMap (wkE v.S (h + 1)) ++ (insE (wkE v.S (h + 1) d) x ++ D2.flatMap (wkE v.S (h + 1))) := by
          have hZE : Z.E = [] := by rw [hZ]
          rw [entX, hZE, List.nil_append, hZD, List.flatMap_append, List.flatMap_append, hf1, hf2, he3, ih.ents, List.append_assoc]
        have hUZ : U3.Perm (pagX v3.S (h + 1) Z ++ R) := by
          refine hU3.trans ?_
          rw [hpZ, hRd, List.append_assoc, List.append_assoc]
          exact perm3 _ _ _
        have hWi := ih.W
        have hr := InR.split (m := m) (S0 := v.S) (U := U) (R := R) hv3 hUZ (fun n hn => hfr3 n (hfr2 _ (hfr1 _ (hn.le (by omega))))) (hsR.sub (fun b hb => by
          rcases List.mem_append.1 hb with c | c
          · rw [hRd]; exact List.mem_append_left _ (List.mem_append_right _ (List.mem_append_right _ c))
          · exact List.mem_append_right _ c)) hgZ (by rw [hd1, szN_false, hZl]; show _ ≤ 2 * 16; omega) (by rw [hd1, szN_false, hZl]; omega) hml (by omega)
        rw [heZ] at hr
        rw [hin]
        exact .inl hr
      · refine .inr ⟨?_, fun c => hn ((hfr2 2 (hfr1 _ (c.le (by omega)))).le ih.len.2)⟩
        have hu5 : (unN (decide (h = 0)) V.1 V.2.1).2.2 = 5 := h5
        rw [hin, rpN, if_neg (by rw [hu5]; decide)]
        exact hu5
    · refine .inr ⟨?_, fun c => hn (hfr1 _ (c.le (by omega)))⟩
      rw [hin, if_neg (by rw [h5]; decide)]
      exact h5
end Go.Proofs.Ytckdlfbbkemklaa
end
section
/- tree: what an entry more makes of all of a tree. -/
namespace Go.Proofs.Ytckdlfbbkemklaa
open Go Go.RowKit Go.Gv
set_option linter.unusedVariables false
set_option linter.unusedSimpArgs false

def rmin (h : Nat) : Nat := if h = 1 then 1 else 2
/-- a tree as it should be, in a view; R are the other pages in use -/
structure TI (k : Nat) (mu : Nat → Nat) (O R : List Nat) (v : VS) (a : Int) (h : Nat) (E : List ENT) : Prop where
  vg : VG k (pgN v.S h a ++ R) O v
  g : h = 0 ∨ tkG v.S k mu h (rmin h) a
  ents : wkE v.S h a = E
  ord : ordE E
  h5 : h ≤ 5
/-- a root that is written -/
theorem sg_spec {k : Nat} {mu : Nat → Nat} {O U R : List Nat} {h : Nat} {v : VS} {y : ND3} (hv : VG k U O v) (hU : U.Perm (pagX v.S h y ++ R)) (g : okX v.S k mu h y) (hm : rmin (h + 1) ≤ szN (decide (h = 0)) y) (hM : szN (decide (h = 0)) y ≤ mostN (decide (h = 0))) (ho : ordE (entX v.S h y)) (h5 : h + 1 ≤ 5) :
    sgG (decide (h = 0)) v [y] (h + 1) ∧ ((∃ v' t, sgN (decide (h = 0)) v [y] (h + 1) = (v', (((t : Nat) : Int), h + 1), 0) ∧ TI k mu O R v' (t : Int) (h + 1) (entX v.S h y) ∧ v'.S.W.length ≤ v.S.W.length + 4 ∧ same v.S v'.S (R ++ O))
      ∨ ((sgN (decide (h = 0)) v [y] (h + 1)).2.2 = 5 ∧ ¬ Fre k U O 1)) := by
  have hy0 : ([y] : List ND3).getD 0 nd0 = y := rfl
  have hno : ¬ (decide (h = 0) = false ∧ szN (decide (h = 0)) y = 1) := fun c => by
    have h0 : h ≠ 0 := of_decide_eq_false c.1
    rw [rmin, if_neg (by omega)] at hm
    omega
  have hs1 := g.2.1
  refine ⟨⟨Nat.le_refl _, fun c1 c2 => by rw [hy0] at c2; exact absurd ⟨c1, c2⟩ hno⟩, ?_⟩
  have e : sgN (decide (h = 0)) v [y] (h + 1) = ((wrN v (decide (h = 0)) y).1, ((wrN v (decide (h = 0)) y).2.1, h + 1), (wrN v (decide (h = 0)) y).2.2) := by
    rw [sgN, hy0, if_neg (fun c => c.elim (fun q => by cases q) (by omega)), if_neg hno]
  rw [e]
  have hnd := (List.nodup_append.1 (hU.nodup_iff.1 hv.m.nodup)).1
  obtain ⟨hr, hrE, hrK⟩ := nodeRight_of g hv.k8.2 hM ho hnd
  rcases hv.wr hr hrE hrK with ⟨t, v1, e1, hv1, ht, htU, htO, hrd, hW1, hag⟩ | ⟨e5, _, hn⟩
  · rw [e1]
    have hsm : same v.S v1.S (U ++ O) := fun p hp lf => hag p lf (by
      rcases List.mem_append.1 hp with q | q
      · exact (hv.m.rng p q).2
      · exact (hv.o.rng p q).2) (fun c => by
      subst c
      rcases List.mem_append.1 hp with q | q
      · exact htU q
      · exact htO q)
    obtain ⟨w1, w2, w3⟩ := tk_written (m := rmin (h + 1)) g (hsm.sub (fun p hp => List.mem_append_left _ (hU.mem_iff.2 (List.mem_append_left _ hp)))) hrd ht hm hM
    refine .inl ⟨v1, t, rfl, ⟨?_, .inr w1, w2, ho, h5⟩, hW1, hsm.sub (fun p hp => ?_)⟩
    · rw [w3]
      exact hv1.perm (List.Perm.cons t hU)
    · rcases List.mem_append.1 hp with q | q
      · exact List.mem_append_left _ (hU.mem_iff.2 (List.mem_append_right _ q))
      · exact List.mem_append_right _ q
  · exact .inr ⟨e5, hn⟩
theorem ro_one (leaf : Bool) (v : VS) (xs : List ND3) (h : Nat) : roN 1 leaf v xs h = if 1 < xs.length then (if (unN leaf v xs).2.2 = 0 then roN 0 false (unN leaf v xs).1 (splitN false (unN leaf v xs).2.1) (h + 1) else ((unN leaf v xs).1, (0, 0), (unN leaf v xs).2.2)) else if 5 < h then (v, (0, 0), 5) else sgN leaf v xs h := rfl
/-- nodes of one height, and as many above them as must be -/
theorem ro_spec {k : Nat} {mu : Nat → Nat} {O U R : List Nat} {h : Nat} {v : VS} {xs : List ND3} (hmu : mu (h + 1) ≤ limN h) (hv : VG k U O v) (hU : U.Perm (pagsX v.S h xs ++ R)) (hok : ∀ z ∈ xs, okX v.S k mu h z ∧ rmin (h + 1) ≤ szN (decide (h = 0)) z ∧ szN (decide (h = 0)) z ≤ mostN (decide (h = 0)))
    (ho : ordE (entsX v.S h xs)) (hl : 1 ≤ xs.length ∧ xs.length ≤ 2) (h2 : xs.length = 2 → ∀ z ∈ xs, limN h ≤ szN (decide (h = 0)) z) (h5 : h + 1 ≤ 5) :
    roG 1 (decide (h = 0)) v xs (h + 1) ∧ ((∃ v' t H, roN 1 (decide (h = 0)) v xs (h + 1) = (v', (((t : Nat) : Int), H), 0) ∧ TI k mu O R v' (t : Int) H (entsX v.S h xs) ∧ v'.S.W.length ≤ v.S.W.length + 12 ∧ same v.S v'.S (R ++ O) ∧ 1 ≤ H)
      ∨ ((roN 1 (decide (h = 0)) v xs (h + 1)).2.2 = 5 ∧ (¬ Fre k U O 3 ∨ h = 4))) := by
  have hsmR : ∀ {S S' : DS}, same S S' (U ++ O) → same S S' (R ++ O) := fun s => s.sub (fun p hp => by
    rcases List.mem_append.1 hp with q | q
    · exact List.mem_append_left _ (hU.mem_iff.2 (List.mem_append_right _ q))
    · exact List.mem_append_right _ q)
  by_cases hl1 : xs.length = 1
  · obtain ⟨y, rfl⟩ : ∃ y, xs = [y] := ⟨xs[0]'(by omega), List.ext_getElem (by simp [hl1]) (fun i p q => by simp at q; subst q; rfl)⟩
    obtain ⟨g1, g2, g3⟩ := hok y (List.mem_singleton.2 rfl)
    have hp1 : pagsX v.S h [y] = pagX v.S h y := by simp [pagsX]
    have he1 : entsX v.S h [y] = entX v.S h y := by simp [entsX]
    rw [hp1] at hU
    rw [he1] at ho ⊢
    obtain ⟨sG, hsg⟩ := sg_spec hv hU g1 g2 g3 ho h5
    refine ⟨⟨fun c => absurd c (by show ¬ 1 < 1; decide), fun _ _ => sG⟩, ?_⟩
    rw [roN_fin (by show 1 ≤ 1; decide), if_neg (by omega)]
    rcases hsg with ⟨v', t, e, ti, hW, hsm⟩ | ⟨e5, hn⟩
    · exact .inl ⟨v', t, h + 1, e, ti, by omega, hsm, by omega⟩
    · exact .inr ⟨e5, .inl (fun c => hn (c.le (by decide)))⟩
  · have hl2 : xs.length = 2 := by omega
    have hxm : ∀ z ∈ xs, okX v.S k mu h z ∧ mu (h + 1) ≤ szN (decide (h = 0)) z ∧ szN (decide (h = 0)) z ≤ mostN (decide (h = 0)) := fun z hz => ⟨(hok z hz).1, Nat.le_trans hmu (h2 hl2 z hz), (hok z hz).2.2⟩
    rcases un_spec xs v U R hv hU hxm ho with ⟨v1, D, U', e1, hv1, hU1, hsm1, hDl, hDg, hDe, hDk, hW1, hfr1⟩ | ⟨e5, hn⟩
    · have hun : unN (decide (h = 0)) v xs = (v1, ⟨[], xs.map (least3 (decide (h = 0))), D⟩, 0) := by
        rw [unN, e1]; simp only [if_true]
      obtain ⟨X, hX⟩ : ∃ X : ND3, X = ⟨[], xs.map (least3 (decide (h = 0))), D⟩ := ⟨_, rfl⟩
      rw [← hX] at hun
      have hXD : X.D = D := by rw [hX]
      have hd1 : decide (h + 1 = 0) = false := rfl
      have hXs : szN false X = 2 := by rw [szN_false, hXD, hDl, hl2]
      have hgX : okX v1.S k mu (h + 1) X := by
        refine ⟨?_, ?_, ?_, ?_⟩
        · rw [hd1]
          refine ⟨by rw [hX], ?_⟩
          rw [hX]
          simp only [List.length_map]
          exact hDl.symm
        · rw [hd1, hXs]; decide
        · intro z hz
          rw [hXD] at hz
          exact hDg z hz
        · rw [hX]
          exact hDk.symm
      have hsp : splitN false X = [X] := by
        rcases split_two (leaf := false) (y := X) hgX.1 (by rw [hXs]; decide) (by rw [hXs]; decide) with ⟨_, c⟩ | ⟨c, _⟩
        · exact c
        · rw [hXs] at c; exact absurd c (by decide)
      have hpX : pagX v1.S (h + 1) X = D.flatMap (pgN v1.S (h + 1)) := by rw [pagX, hXD]
      have heX : entX v1.S (h + 1) X = entsX v.S h xs := by
        have hXE : X.E = [] := by rw [hX]
        rw [entX, hXE, List.nil_append, hXD, hDe]
      have hro : roN 1 (decide (h = 0)) v xs (h + 1) = roN 0 false v1 [X] (h + 2) := by
        rw [ro_one, if_pos (by omega), hun, if_pos rfl]
        simp only [hsp]
      have hsg : h + 2 ≤ 5 → _ := fun q => sg_spec (R := R) (h := h + 1) hv1 (by rw [hpX]; exact hU1) hgX (by rw [hd1, hXs]; show rmin (h + 2) ≤ 2; rw [rmin, if_neg (by omega)]; exact Nat.le_refl _) (by rw [hd1, hXs]; decide) (by rw [heX]; exact ho) q
      have hG0 : roG 0 false v1 [X] (h + 2) := ⟨by show 1 ≤ 1; decide, fun q => (hsg q).1⟩
      refine ⟨⟨fun _ _ => by rw [hun]; simp only [hsp]; exact hG0, fun c => by omega⟩, ?_⟩
      rw [hro, roN]
      by_cases hb : 5 < h + 2
      · rw [if_pos hb]
        exact .inr ⟨rfl, .inr (by omega)⟩
      · rw [if_neg hb]
        rcases (hsg (by omega)).2 with ⟨v', t, e, ti, hW, hsm⟩ | ⟨e5, hn⟩
        · rw [heX] at ti
          refine .inl ⟨v', t, h + 2, e, ti, by rw [hl2] at hW1; omega, fun p hp lf => by rw [hsm p hp lf, hsmR hsm1 p hp lf], by omega⟩
        · exact .inr ⟨e5, .inl (fun c => hn (hfr1 1 (by rw [hl2]; exact c)))⟩
    · have hu5 : (unN (decide (h = 0)) v xs).2.2 = 5 := e5
      refine ⟨⟨fun _ c => by rw [hu5] at c; exact absurd c (by decide), fun c => by omega⟩, .inr ⟨?_, .inl (fun c => hn (by rw [hl2]; exact c.le (by decide)))⟩⟩
      rw [ro_one, if_pos (by omega), if_neg (by rw [hu5]; decide)]
      exact hu5
end Go.Proofs.Ytckdlfbbkemklaa
end
section
/- tree: an entry more behind all others: what is asked, and what comes of it. -/
namespace Go.Proofs.Ytckdlfbbkemklaa
open Go Go.RowKit Go.Gv
set_option linter.unusedVariables false
set_option linter.unusedSimpArgs false

theorem lessK_tot {a b : KEY} (h : lessK a b = false) (hn : a ≠ b) : lessK b a = true := by
  unfold lessK at h ⊢
  have : ¬ (a.1 = b.1 ∧ a.2 = b.2) := fun c => hn (Prod.ext c.1 c.2)
  rw [Bool.or_eq_false_iff, decide_eq_false_iff_not] at h
  obtain ⟨h1, h2⟩ := h
  rw [Bool.and_eq_false_iff, decide_eq_false_iff_not, decide_eq_false_iff_not] at h2
  by_cases e : a.1 = b.1
  · have e2 : ¬ a.2 = b.2 := fun c => this ⟨e, c⟩
    have h3 : ¬ a.2 < b.2 := h2.elim (fun q => absurd e q) id
    rw [decide_eq_true e.symm, decide_eq_true (show b.2 < a.2 by omega)]; simp
  · rw [decide_eq_true (show b.1 < a.1 by omega)]; simp
theorem ent_span {e : ENT} (h : entOk e = true) : e.key.2 ≤ e.fin := by
  simp only [entOk, Bool.and_eq_true, decide_eq_true_eq] at h
  exact h.1.1.1.1.1.2
theorem after_of {a x : ENT} (hl : lessK a.key x.key = true) (ha : entOk a = true) (hx : entOk x = true) (hm : meetsE x a = false) : afterE a x = true := by
  have s1 := ent_span ha
  have s2 := ent_span hx
  rw [afterE, hl, Bool.true_and, Bool.not_eq_true', Bool.and_eq_false_iff, decide_eq_false_iff_not, decide_eq_false_iff_not]
  by_cases e : a.key.1 = x.key.1
  · right
    intro c
    unfold lessK at hl
    rw [Bool.or_eq_true, decide_eq_true_eq, Bool.and_eq_true, decide_eq_true_eq, decide_eq_true_eq] at hl
    have h2 : a.key.2 < x.key.2 := hl.elim (fun q => by omega) (fun q => q.2)
    have : meetsE x a = true := by
      rw [meetsE, decide_eq_true e.symm, decide_eq_true c, decide_eq_true (show a.key.2 ≤ x.fin by omega)]; rfl
    rw [this] at hm; cases hm
  · exact .inl e
theorem after_of' {a x : ENT} (hl : lessK x.key a.key = true) (ha : entOk a = true) (hx : entOk x = true) (hm : meetsE x a = false) : afterE x a = true := by
  have s1 := ent_span ha
  have s2 := ent_span hx
  rw [afterE, hl, Bool.true_and, Bool.not_eq_true', Bool.and_eq_false_iff, decide_eq_false_iff_not, decide_eq_false_iff_not]
  by_cases e : x.key.1 = a.key.1
  · right
    intro c
    unfold lessK at hl
    rw [Bool.or_eq_true, decide_eq_true_eq, Bool.and_eq_true, decide_eq_true_eq, decide_eq_true_eq] at hl
    have h2 : x.key.2 < a.key.2 := hl.elim (fun q => by omega) (fun q => q.2)
    have : meetsE x a = true := by
      rw [meetsE, decide_eq_true e, decide_eq_true (show x.key.2 ≤ a.fin by omega), decide_eq_true c]; rfl
    rw [this] at hm; cases hm
  · exact .inl e
theorem chk_spec {E : List ENT} {x : ENT} (h : chkE E x = 0) : (∀ y ∈ E, y.key ≠ x.key) ∧ ∀ y ∈ E, meetsE x y = false := by
  rw [chkE] at h
  split at h
  · cases h
  · rename_i h1
    split at h
    · cases h
    · rename_i h2
      rw [Bool.not_eq_true, List.any_eq_false] at h1 h2
      exact ⟨fun y hy c => h1 y hy (decide_eq_true c), fun y hy => by
        have := h2 y hy
        cases hm : meetsE x y with
        | true => exact absurd hm this
        | false => rfl⟩
/-- an entry more among entries that rise: they rise yet -/
theorem ins_ord {E : List ENT} {x : ENT} (h : ordE E) (hx : entOk x = true) (hR : entR x) (hc : chkE E x = 0) : ordE (insE E x) := by
  obtain ⟨hk, hm⟩ := chk_spec hc
  have e : E.takeWhile (fun y => !lessK x.key y.key) ++ E.dropWhile (fun y => !lessK x.key y.key) = E := List.takeWhile_append_dropWhile
  obtain ⟨A, hA⟩ : ∃ A, A = E.takeWhile (fun y => !lessK x.key y.key) := ⟨_, rfl⟩
  obtain ⟨B, hB⟩ : ∃ B, B = E.dropWhile (fun y => !lessK x.key y.key) := ⟨_, rfl⟩
  rw [insE, ← hA, ← hB]
  rw [← hA, ← hB] at e
  have hAl : ∀ a ∈ A, lessK x.key a.key = false := fun a ha => by
    rw [hA] at ha
    have : ∀ (l : List ENT), a ∈ l.takeWhile (fun y => !lessK x.key y.key) → (!lessK x.key a.key) = true := by
      intro l
      induction l with
      | nil => intro q; cases q
      | cons b l ih =>
        intro q
        rw [List.takeWhile_cons] at q
        split at q
        · rename_i hb
          rcases List.mem_cons.1 q with rfl | q
          · exact hb
          · exact ih q
        · cases q
    have := this E ha
    cases hl : lessK x.key a.key with
    | false => rfl
    | true => rw [hl] at this; cases this
  have hBl : ∀ b ∈ B, lessK x.key b.key = true := by
    have hp := h.1
    rw [← e, List.pairwise_append] at hp
    have hp2 := hp.2.1
    cases hBc : B with
    | nil => intro b hb; cases hb
    | cons b0 B' =>
      have h0 : lessK x.key b0.key = true := by
        have hd : ∀ (l : List ENT), l.dropWhile (fun y => !lessK x.key y.key) = b0 :: B' → (!lessK x.key b0.key) = false := by
          intro l
          induction l with
          | nil => intro q; cases q
          | cons b l ih =>
            intro q
            rw [List.dropWhile_cons] at q
            split at q
            · exact ih q
            · rename_i hb
              injection q with q1 q2
              rw [← q1]
              exact Bool.eq_false_iff.2 hb
        have := hd E (hB.symm.trans hBc)
        cases hl : lessK x.key b0.key with
        | true => rfl
        | false => rw [hl] at this; cases this
      rw [hBc, List.pairwise_cons] at hp2
      intro b hb
      rcases List.mem_cons.1 hb with rfl | hb
      · exact h0
      · exact lessK_trans h0 (after_less (hp2.1 b hb))
  have hAE : ∀ a ∈ A, a ∈ E := fun a ha => by rw [← e]; exact List.mem_append_left _ ha
  have hBE : ∀ b ∈ B, b ∈ E := fun b hb => by rw [← e]; exact List.mem_append_right _ hb
  have hp := h.1
  rw [← e, List.pairwise_append] at hp
  refine ⟨?_, fun z hz => ?_⟩
  · rw [List.pairwise_append]
    refine ⟨hp.1, List.pairwise_cons.2 ⟨fun b hb => after_of' (hBl b hb) (h.2 b (hBE b hb)).1 hx (hm b (hBE b hb)), hp.2.1⟩, fun a ha b hb => ?_⟩
    rcases List.mem_cons.1 hb with rfl | hb
    · exact after_of (lessK_tot (hAl a ha) (fun c => hk a (hAE a ha) c.symm)) (h.2 a (hAE a ha)).1 hx (hm a (hAE a ha))
    · exact hp.2.2 a ha b hb
  · rcases List.mem_append.1 hz with hz | hz
    · exact h.2 z (hAE z hz)
    · rcases List.mem_cons.1 hz with rfl | hz
      · exact ⟨hx, hR⟩
      · exact h.2 z (hBE z hz)
/-- all can be read -/
theorem tk_wkG {S : DS} {k : Nat} {mu : Nat → Nat} (hk : k ≤ 512) : ∀ (h m : Nat) (a : Int), tkG S k mu h m a → wkG S h a
  | 0, _, _, g => g.elim
  | h + 1, m, a, g => by
    obtain ⟨⟨p, hp, hp2⟩, g1, g2, g3, ⟨g4, g5, g6⟩, g7, g8⟩ := g
    refine ⟨by omega, g1, ?_, ?_, fun d hd => tk_wkG hk h (mu h) d (g7 d hd)⟩
    · by_cases h0 : h = 0
      · rw [decide_eq_true h0] at g6 ⊢
        have : (rdN S a true).E.length ≤ 7 := g6
        omega
      · rw [decide_eq_false h0] at g3 ⊢
        have : (rdN S a false).E = [] := g3.1
        rw [this]; exact Nat.zero_le _
    · by_cases h0 : h = 0
      · rw [decide_eq_true h0] at g3 ⊢
        have : (rdN S a true).D = [] := g3.2
        rw [this]; exact Nat.zero_le _
      · rw [decide_eq_false h0] at g6 ⊢
        have : (rdN S a false).D.length ≤ 16 := g6
        omega
/-- a page bears no more than seven entries -/
theorem tk_len {S : DS} {k : Nat} {mu : Nat → Nat} : ∀ (h m : Nat) (a : Int), tkG S k mu h m a → (wkE S h a).length ≤ 7 * (pgN S h a).length
  | 0, _, _, g => g.elim
  | h + 1, m, a, g => by
    obtain ⟨_, g1, g2, g3, ⟨g4, g5, g6⟩, g7, g8⟩ := g
    have hs : ∀ D : List Int, (∀ d ∈ D, tkG S k mu h (mu h) d) → (D.flatMap (wkE S h)).length ≤ 7 * (D.flatMap (pgN S h)).length := by
      intro D
      induction D with
      | nil => intro _; exact Nat.zero_le _
      | cons d D ih =>
        intro hd
        have h1 := tk_len h (mu h) d (hd d (List.mem_cons_self ..))
        have h2 := ih (fun z hz => hd z (List.mem_cons_of_mem _ hz))
        rw [List.flatMap_cons, List.flatMap_cons, List.length_append, List.length_append]; omega
    have h1 := hs _ g7
    have h2 : (rdN S a (decide (h = 0))).E.length ≤ 7 := by
      by_cases h0 : h = 0
      · rw [decide_eq_true h0] at g6 ⊢; exact g6
      · rw [decide_eq_false h0] at g3 ⊢
        have : (rdN S a false).E = [] := g3.1
        rw [this]; exact Nat.zero_le _
    rw [wkE, pgN, List.length_append, List.length_cons]; omega
end Go.Proofs.Ytckdlfbbkemklaa
end
section
/- tree: an entry more behind all others: what is asked of a tree, and the tree that comes of it. -/
namespace Go.Proofs.Ytckdlfbbkemklaa
open Go Go.RowKit Go.Gv
set_option linter.unusedVariables false
set_option linter.unusedSimpArgs false

theorem idx_last {E : List ENT} {x : ENT} (h : ∀ y ∈ E, lessK x.key y.key = false) : idxE E x.key = E.length := by
  have h1 := idxGo_eq E x (E.length + 1) 0 rfl (Nat.zero_le _)
  rw [List.drop_zero, Nat.zero_add] at h1
  have h2 := (tw_left (p := fun y : ENT => !lessK x.key y.key) (A := E) (B := []) (fun a ha => by rw [h a ha]; rfl)).1
  rw [List.append_nil, List.takeWhile_nil, List.append_nil] at h2
  rw [idxE, h1, h2]
theorem ents_entR {S : DS} {h : Nat} {xs : List ND3} (ho : ordE (entsX S h xs)) : ∀ y ∈ xs, ∀ e ∈ y.E, entR e := fun y hy e he =>
  (ho.2 e (List.mem_flatMap.2 ⟨y, hy, by rw [entX]; exact List.mem_append_left _ he⟩)).2
set_option maxHeartbeats 4000000 in
theorem in_G {k : Nat} {mu : Nat → Nat} {O : List Nat} {x : ENT} (hmu : ∀ h, mu (h + 1) ≤ limN h) : ∀ (h m : Nat) (v : VS) (a : Int) (U R : List Nat), VG k U O v → tkG v.S k mu (h + 1) m a → U.Perm (pgN v.S (h + 1) a ++ R) → ordE (insE (wkE v.S (h + 1) a) x) →
    (∀ y ∈ wkE v.S (h + 1) a, lessK x.key y.key = false) → v.S.W.length + 8 * h ≤ 700000 → inG (h + 1) v a x
  | 0, m, v, a, U, R, hv, g, hU, ho, has, hW => by
    have hk512 := hv.k8.2
    have hwg := tk_wkG hv.k8.2 (0 + 1) m a g
    obtain ⟨⟨p, hp, hp2⟩, g1, g2, g3, ⟨g4, g5, g6⟩, g7, g8⟩ := g
    have hd1 : decide ((0 : Nat) = 0) = true := rfl
    obtain ⟨hK, hD⟩ := id g3
    rw [hd1] at g1
    have hD' : (rdN v.S a true).D = [] := hD
    have hwk : wkE v.S (0 + 1) a = (rdN v.S a true).E := by
      show (rdN v.S a true).E ++ (rdN v.S a true).D.flatMap _ = _
      rw [hD', List.flatMap_nil, List.append_nil]
    have hpg : pgN v.S (0 + 1) a = [p] := by
      show a.toNat :: (rdN v.S a true).D.flatMap _ = [p]
      rw [hD', hp]; rfl
    rw [hpg] at hU
    have hU : U.Perm (p :: R) := hU
    obtain ⟨v', e1, e2, hv'⟩ := (hv.perm hU).give
    rw [← hp] at e1
    rw [hwk] at has
    refine ⟨⟨by omega, by omega, g1, g2, g3, hwg.2.2.1, hwg.2.2.2.1, by rw [e1]⟩, fun _ => idx_last has, fun c => absurd rfl c⟩
  | h + 1, m, v, a, U, R, hv, g, hU, ho, has, hW => by
    have hk512 := hv.k8.2
    have hwg := tk_wkG hv.k8.2 (h + 1 + 1) m a g
    obtain ⟨⟨p, hp, hp2⟩, g1, g2, g3, ⟨g4, g5, g6⟩, g7, g8⟩ := g
    have g3' := g3
    have g2' := g2
    have hd1 : decide (h + 1 = 0) = false := rfl
    rw [hd1] at g1 g3 g4 g5 g6 g7 g8
    obtain ⟨hE, hKD⟩ := g3
    obtain ⟨N, hN⟩ : ∃ N, N = rdN v.S a false := ⟨_, rfl⟩
    have hpg : pgN v.S (h + 1 + 1) a = p :: N.D.flatMap (pgN v.S (h + 1)) := by
      show a.toNat :: (rdN v.S a false).D.flatMap _ = _
      rw [hN, hp]; rfl
    have hE' : (rdN v.S a false).E = [] := hE
    have hwk : wkE v.S (h + 1 + 1) a = N.D.flatMap (wkE v.S (h + 1)) := by
      show (rdN v.S a false).E ++ (rdN v.S a false).D.flatMap _ = _
      rw [hE', hN, List.nil_append]
    rw [hpg] at hU
    have hU : U.Perm (p :: (N.D.flatMap (pgN v.S (h + 1)) ++ R)) := hU
    obtain ⟨v1, e1, e2, hv1⟩ := (hv.perm hU).give
    rw [← hp] at e1
    rw [hwk] at ho has
    have g7' := g7
    have g8' := g8
    have g4' := g4
    rw [← hN] at g7' g8' g4'
    have hDl : 0 < N.D.length := g4'
    obtain ⟨d, hsp, hdq, hql, hA, hC⟩ := child_sides (x := x) g7' g8' hDl (ho.sub (insE_sub _ _))
    obtain ⟨q, hq⟩ : ∃ q, q = childN N.K x.key := ⟨_, rfl⟩
    rw [← hq] at hsp hdq hql hA hC
    obtain ⟨D1, hD1⟩ : ∃ D1, D1 = N.D.take q := ⟨_, rfl⟩
    obtain ⟨D2, hD2⟩ : ∃ D2, D2 = N.D.drop (q + 1) := ⟨_, rfl⟩
    rw [← hD1, ← hD2] at hsp
    rw [← hD1] at hA
    rw [← hD2] at hC
    have hdm : d ∈ N.D := by rw [hsp]; exact List.mem_append_right _ (List.mem_cons_self ..)
    have hm2 : ∀ z ∈ D2, z ∈ N.D := fun z hz => by rw [hsp]; exact List.mem_append_right _ (List.mem_cons_of_mem _ hz)
    have hlast : q + 1 = N.D.length := by
      cases hc : D2 with
      | nil =>
        have hl : D2.length = N.D.length - (q + 1) := by rw [hD2, List.length_drop]
        rw [hc] at hl
        have hl' : (0 : Nat) = N.D.length - (q + 1) := hl
        omega
      | cons z D3 =>
        have hz : z ∈ D2 := by rw [hc]; exact List.mem_cons_self ..
        have hne := tk_ne (h + 1) (mu (h + 1)) z (g7' z (hm2 z hz))
        cases hw : wkE v.S (h + 1) z with
        | nil => exact absurd hw hne
        | cons e l =>
          have he : e ∈ wkE v.S (h + 1) z := by rw [hw]; exact List.mem_cons_self ..
          have h1 := hC e (List.mem_flatMap.2 ⟨z, hz, he⟩)
          have h2 := has e (List.mem_flatMap.2 ⟨z, hm2 z hz, he⟩)
          rw [h1] at h2; cases h2
    have hEs : N.D.flatMap (wkE v.S (h + 1)) = D1.flatMap (wkE v.S (h + 1)) ++ (wkE v.S (h + 1) d ++ D2.flatMap (wkE v.S (h + 1))) := by
      conv => lhs; rw [hsp]
      rw [List.flatMap_append, List.flatMap_cons]
    have hPs : N.D.flatMap (pgN v.S (h + 1)) = D1.flatMap (pgN v.S (h + 1)) ++ (pgN v.S (h + 1) d ++ D2.flatMap (pgN v.S (h + 1))) := by
      conv => lhs; rw [hsp]
      rw [List.flatMap_append, List.flatMap_cons]
    rw [hEs, insE_app hA hC] at ho
    obtain ⟨Rd, hRd⟩ : ∃ Rd, Rd = D1.flatMap (pgN v.S (h + 1)) ++ (D2.flatMap (pgN v.S (h + 1)) ++ R) := ⟨_, rfl⟩
    have hU1 : (N.D.flatMap (pgN v.S (h + 1)) ++ R).Perm (pgN v.S (h + 1) d ++ Rd) := by
      rw [hPs, hRd, List.append_assoc, List.append_assoc]
      exact perm3 _ _ _
    have hasd : ∀ y ∈ wkE v.S (h + 1) d, lessK x.key y.key = false := fun y hy => has y (List.mem_flatMap.2 ⟨d, hdm, hy⟩)
    have ih := in_G (x := x) hmu h (mu (h + 1)) v1 d _ Rd hv1 (by rw [e2]; exact g7' d hdm) (by rw [e2]; exact hU1) (by rw [e2]; exact insE_ord_sub ho) (by rw [e2]; exact hasd) (by rw [e2]; omega)
    have isp := in_spec (x := x) hmu h (mu (h + 1)) v1 d _ Rd (hmu h) hv1 (by rw [e2]; exact g7' d hdm) (by rw [e2]; exact hU1) (by rw [e2]; exact insE_ord_sub ho)
    have iok := inN_ok (h + 1) d x hv1.ok
    refine ⟨⟨by omega, by omega, g1, g2', g3', hwg.2.2.1, hwg.2.2.2.1, by rw [e1]⟩, fun c => absurd c (Nat.succ_ne_zero h), fun _ => ?_⟩
    rw [← hN, ← hq, hdq, e1]
    dsimp only
    refine ⟨hlast, ih, iok, fun hz => ?_⟩
    rcases isp with i | ⟨h5, _⟩
    · have hw := i.W
      rw [e2] at hw
      refine ⟨by have := i.len; omega, by have := i.len; omega, by have := i.len; omega, ents_entR (S := (inN (h + 1) v1 d x).1.S) (h := h) (by rw [i.ents, e2]; exact insE_ord_sub ho)⟩
    · have hz' : (inN (h + 1) v1 d x).2.2 = 0 := hz
      rw [h5] at hz'; cases hz'
end Go.Proofs.Ytckdlfbbkemklaa
end
section
/- tree: an entry more, all of it: the tree that comes of it. -/
namespace Go.Proofs.Ytckdlfbbkemklaa
open Go Go.RowKit Go.Gv
set_option linter.unusedVariables false
set_option linter.unusedSimpArgs false

theorem rmin_lim (g : Nat) : rmin (g + 1) ≤ limN g := by
  rw [rmin, limN]
  by_cases h : g = 0
  · rw [if_pos (by omega), if_pos h]; decide
  · rw [if_neg (by omega), if_neg h]; decide
theorem one_okX (S : DS) (k : Nat) (mu : Nat → Nat) (x : ENT) : okX S k mu 0 ⟨[x], [], []⟩ := ⟨⟨rfl, rfl⟩, Nat.le_refl 1, (fun d hd => by cases hd), rfl⟩
theorem first_spec {k : Nat} {mu : Nat → Nat} {O R : List Nat} {v : VS} {x : ENT} (hmu : ∀ h, mu (h + 1) ≤ limN h) (hv : VG k R O v) (ho : ordE [x]) :
    roG 1 true v [⟨[x], [], []⟩] 1 ∧ ((∃ v' t H, roN 1 true v [⟨[x], [], []⟩] 1 = (v', (((t : Nat) : Int), H), 0) ∧ TI k mu O R v' (t : Int) H [x] ∧ v'.S.W.length ≤ v.S.W.length + 12 ∧ same v.S v'.S (R ++ O) ∧ 1 ≤ H)
      ∨ ((roN 1 true v [⟨[x], [], []⟩] 1).2.2 = 5 ∧ ¬ Fre k R O 3)) := by
  have hd : decide ((0 : Nat) = 0) = true := rfl
  have hp : pagsX v.S 0 [⟨[x], [], []⟩] = [] := rfl
  have he : entsX v.S 0 [⟨[x], [], []⟩] = [x] := rfl
  have h := ro_spec (k := k) (mu := mu) (O := O) (U := R) (R := R) (h := 0) (v := v) (xs := [⟨[x], [], []⟩]) (hmu 0) hv (by rw [hp]; exact List.Perm.refl _) (fun z hz => by
    rw [List.mem_singleton.1 hz]
    exact ⟨one_okX v.S k mu x, by show rmin 1 ≤ 1; decide, by show 1 ≤ 7; decide⟩) (by rw [he]; exact ho) ⟨Nat.le_refl 1, by show 1 ≤ 2; decide⟩ (fun c => by cases c) (by decide)
  rw [hd, he] at h
  refine ⟨h.1, ?_⟩
  rcases h.2 with c | ⟨c1, c2⟩
  · exact .inl c
  · exact .inr ⟨c1, c2.elim id (fun q => by cases q)⟩
/-- an entry more: the tree that comes of it -/
theorem i_spec {k : Nat} {mu : Nat → Nat} {O R : List Nat} {v : VS} {a : Int} {h : Nat} {E : List ENT} {x : ENT} (hmu : ∀ h, mu (h + 1) ≤ limN h) (ti : TI k mu O R v a h E) (hx : entOk x = true) (hR : entR x) (hc : chkE E x = 0) :
    (∃ v' t H, iN v a h x = (v', (((t : Nat) : Int), H), 0) ∧ TI k mu O R v' (t : Int) H (insE E x) ∧ v'.S.W.length ≤ v.S.W.length + 60 ∧ same v.S v'.S (R ++ O) ∧ 1 ≤ H)
    ∨ ((iN v a h x).2.2 = 5 ∧ (¬ Fre k (pgN v.S h a ++ R) O (2 * h + 3) ∨ h = 5)) := by
  have hio := ins_ord ti.ord hx hR hc
  have hv := ti.vg
  rw [iN, ti.ents, hc, if_neg (by decide)]
  cases h with
  | zero =>
    have hE : E = [] := ti.ents.symm
    subst hE
    have hins : insE [] x = [x] := rfl
    rw [hins] at hio ⊢
    rw [if_pos rfl]
    rcases (first_spec (mu := mu) hmu (O := O) (R := R) hv hio).2 with ⟨v', t, H, e, ti', hW, hsm, hH⟩ | ⟨e5, hn⟩
    · exact .inl ⟨v', t, H, e, ti', by omega, hsm, hH⟩
    · exact .inr ⟨e5, .inl hn⟩
  | succ g =>
    rw [if_neg (Nat.succ_ne_zero g)]
    have hdd : decide (g + 1 = 1) = decide (g = 0) := decide_eq_decide.2 (by omega)
    rw [hdd]
    have tg := ti.g.resolve_left (Nat.succ_ne_zero g)
    rcases in_spec (x := x) hmu g (rmin (g + 1)) v a _ R (rmin_lim g) hv tg (List.Perm.refl _) (by rw [ti.ents]; exact hio) with i | ⟨h5, hn⟩
    · obtain ⟨V, hV⟩ : ∃ V, V = inN (g + 1) v a x := ⟨_, rfl⟩
      rw [← hV] at i ⊢
      rw [if_pos i.e]
      obtain ⟨U', hv', hU', hfr⟩ := i.vg
      have hr := ro_spec (hmu g) hv' hU' i.ok (by rw [i.ents, ti.ents]; exact hio) i.len i.two ti.h5
      rw [i.ents, ti.ents] at hr
      have hWi := i.W
      have h5 := ti.h5
      rcases hr.2 with ⟨v', t, H, e, ti', hW, hsm, hH⟩ | ⟨e5, hn⟩
      · exact .inl ⟨v', t, H, e, ti', by omega, fun p hp lf => by rw [hsm p hp lf, i.sm p hp lf], hH⟩
      · refine .inr ⟨e5, ?_⟩
        rcases hn with hn | hn
        · exact .inl (fun c => hn (hfr 3 (c.le (by omega))))
        · exact .inr (by omega)
    · rw [if_neg (by rw [h5]; decide)]
      exact .inr ⟨h5, .inl (fun c => hn (c.le (by omega)))⟩
/-- an entry more behind all others: what is asked -/
theorem iG_of {k : Nat} {mu : Nat → Nat} {O R : List Nat} {v : VS} {a : Int} {h : Nat} {E : List ENT} {x : ENT} (hmu : ∀ h, mu (h + 1) ≤ limN h) (ti : TI k mu O R v a h E) (hx : entOk x = true) (hR : entR x) (has : ∀ y ∈ E, lessK x.key y.key = false) (hW : v.S.W.length ≤ 600000) : iG v a h x := by
  have hv := ti.vg
  have h5 := ti.h5
  have hlen : (wkE v.S h a).length ≤ 100000 := by
    rcases ti.g with h0 | tg
    · subst h0; exact Nat.zero_le _
    · have h1 := tk_len h (rmin h) a tg
      have h2 := hv.m.free
      have h3 := hv.k8.2
      rw [List.length_append] at h2
      omega
  refine ⟨⟨h5, ti.g.imp id (fun tg => tk_wkG hv.k8.2 h (rmin h) a tg), hlen, by omega, hx, hR⟩, fun hc => ?_⟩
  rw [ti.ents] at hc
  have hio := ins_ord ti.ord hx hR hc
  cases h with
  | zero =>
    have hE : E = [] := ti.ents.symm
    subst hE
    exact ⟨fun _ => (first_spec (mu := mu) hmu (O := O) (R := R) hv hio).1, fun c => absurd rfl c⟩
  | succ g =>
    refine ⟨fun c => absurd c (Nat.succ_ne_zero g), fun _ => ?_⟩
    have hdd : decide (g + 1 = 1) = decide (g = 0) := decide_eq_decide.2 (by omega)
    rw [hdd]
    have tg := ti.g.resolve_left (Nat.succ_ne_zero g)
    refine ⟨in_G (x := x) hmu g (rmin (g + 1)) v a _ R hv tg (List.Perm.refl _) (by rw [ti.ents]; exact hio) (by rw [ti.ents]; exact has) (by omega), inN_ok (g + 1) a x hv.ok, fun hz => ?_⟩
    rcases in_spec (x := x) hmu g (rmin (g + 1)) v a _ R (rmin_lim g) hv tg (List.Perm.refl _) (by rw [ti.ents]; exact hio) with i | ⟨h5, hn⟩
    · obtain ⟨U', hv', hU', hfr⟩ := i.vg
      have hoi : ordE (entsX (inN (g + 1) v a x).1.S g (inN (g + 1) v a x).2.1) := by rw [i.ents, ti.ents]; exact hio
      have hr := ro_spec (hmu g) hv' hU' i.ok hoi i.len i.two ti.h5
      have hWi := i.W
      have hl := i.len
      exact ⟨by omega, by omega, ents_entR hoi, hr.1⟩
    · rw [h5] at hz; cases hz
end Go.Proofs.Ytckdlfbbkemklaa
end
section
/- tree: an entry that is looked for, in plain terms. -/
namespace Go.Proofs.Ytckdlfbbkemklaa
open Go Go.RowKit Go.Gv
set_option linter.unusedVariables false
set_option linter.unusedSimpArgs false

/-- an entry that is looked for among others, from some place on -/
def fdE (E : List ENT) (k : KEY) : ENT × Nat := match E.find? (fun y => decide (y.key = k)) with
  | some y => (y, 0)
  | none => (ent0, 10)
/-- an entry that is looked for -/
def fdN (S : DS) : Nat → Int → KEY → ENT × Nat
  | 0, _, _ => (ent0, 10)
  | h + 1, a, k => if h = 0 then fdE (rdN S a true).E k else fdN S h ((rdN S a false).D.getD (childN (rdN S a false).K k) 0) k
def fdG (S : DS) : Nat → Int → KEY → Prop
  | 0, _, _ => True
  | h + 1, a, k => (-1000000 ≤ a ∧ a ≤ 1000000) ∧ (rdN S a (decide (h = 0))).e = 0 ∧ (rdN S a (decide (h = 0))).E.length ≤ 1000 ∧ (rdN S a (decide (h = 0))).K.length ≤ 1000 ∧
    (h ≠ 0 → childN (rdN S a false).K k < (rdN S a false).D.length ∧ fdG S h ((rdN S a false).D.getD (childN (rdN S a false).K k) 0) k)
theorem fdE_some {E : List ENT} {k : KEY} {i : Nat} (hno : (E.take i).any (fun y => decide (y.key = k)) = false) (hi : i < E.length) (hk : (E.getD i ent0).key = k) : fdE E k = (E.getD i ent0, 0) := by
  have e : E = E.take i ++ E.getD i ent0 :: E.drop (i + 1) := by
    rw [List.getD_eq_getElem?_getD, List.getElem?_eq_getElem hi, Option.getD_some, List.getElem_cons_drop, List.take_append_drop]
  have hn : (E.take i).find? (fun y => decide (y.key = k)) = none := by
    rw [List.find?_eq_none]
    intro y hy
    have := List.any_eq_false.1 hno y hy
    exact this
  have hf : E.find? (fun y => decide (y.key = k)) = some (E.getD i ent0) := by
    conv => lhs; rw [e]
    rw [List.find?_append, hn, List.find?_cons]
    simp only [hk, decide_true, Option.none_or]
  rw [fdE, hf]
theorem fdE_none {E : List ENT} {k : KEY} (hno : E.any (fun y => decide (y.key = k)) = false) : fdE E k = (ent0, 10) := by
  have hn : E.find? (fun y => decide (y.key = k)) = none := by
    rw [List.find?_eq_none]
    intro y hy
    exact List.any_eq_false.1 hno y hy
  rw [fdE, hn]
end Go.Proofs.Ytckdlfbbkemklaa
end
section
/- tree: a disk that is filled; one entry, in plain terms. -/
namespace Go.Proofs.Ytckdlfbbkemklaa
open Go Go.RowKit Go.Gv
set_option linter.unusedVariables false
set_option linter.unusedSimpArgs false

/-- leaves of four at least -/
def mu4 (h : Nat) : Nat := if h = 1 then 4 else 1
theorem mu4_lim (h : Nat) : mu4 (h + 1) ≤ limN h := by
  rw [mu4, limN]
  by_cases c : h = 0
  · rw [if_pos (by omega), if_pos c]; decide
  · rw [if_neg (by omega), if_neg c]; decide
theorem low_sum {S : DS} {h : Nat} : ∀ (D : List Int), (∀ d ∈ D, 4 ≤ (wkE S h d).length) → 4 * D.length ≤ (D.flatMap (wkE S h)).length
  | [], _ => Nat.zero_le _
  | d :: D, hd => by
    have h1 := hd d (List.mem_cons_self ..)
    have h2 := low_sum D (fun z hz => hd z (List.mem_cons_of_mem _ hz))
    rw [List.flatMap_cons, List.length_append, List.length_cons]; omega
theorem low4 {S : DS} {k : Nat} : ∀ (h : Nat) (a : Int), tkG S k mu4 h (mu4 h) a → 4 ≤ (wkE S h a).length
  | 0, _, g => g.elim
  | h + 1, a, g => by
    obtain ⟨_, _, _, g3, ⟨g4, g5, g6⟩, g7, g8⟩ := g
    rw [wkE, List.length_append]
    by_cases h0 : h = 0
    · subst h0
      have : 4 ≤ (rdN S a (decide (0 = 0))).E.length := g5
      omega
    · rw [decide_eq_false h0] at g4 g7 ⊢
      have h1 : 1 ≤ (rdN S a false).D.length := g4
      have h2 := low_sum _ (fun d hd => low4 h d (g7 d hd))
      omega
/-- a tree of few entries is low -/
theorem ti_low {k : Nat} {O R : List Nat} {v : VS} {a : Int} {h : Nat} {E : List ENT} (ti : TI k mu4 O R v a h E) (hE : E.length ≤ 7) : h ≤ 1 := by
  rcases ti.g with h0 | g
  · omega
  · rcases h with _ | _ | h
    · omega
    · omega
    · have hEe := ti.ents
      obtain ⟨_, _, _, g3, ⟨g4, g5, g6⟩, g7, g8⟩ := g
      have hd1 : decide (h + 1 = 0) = false := rfl
      rw [hd1] at g5 g7
      have h1 : 2 ≤ (rdN v.S a false).D.length := by
        rw [rmin, if_neg (by omega)] at g5
        exact g5
      have h2 := low_sum _ (fun d hd => low4 (h + 1) d (g7 d hd))
      rw [wkE, hd1] at hEe
      have h3 := congrArg List.length hEe
      rw [List.length_append] at h3
      omega
theorem free_at {k : Nat} (h : 8 ≤ k) : Fre k [] [] 6 := ⟨[2, 3, 4, 5, 6, 7], rfl, by decide, fun i hi => ⟨by simp at hi; omega, by simp, by simp⟩⟩
/-- where few entries are there is room for one more -/
theorem ti_room {k : Nat} {v : VS} {a : Int} {h : Nat} {E : List ENT} (ti : TI k mu4 [] [] v a h E) (hE : E.length ≤ 7) : Fre k (pgN v.S h a ++ []) [] (2 * h + 3) ∧ h ≠ 5 := by
  have hl := ti_low ti hE
  have hk := ti.vg.k8.1
  have h6 := free_at hk
  refine ⟨?_, by omega⟩
  rcases h with _ | _ | h
  · exact h6.le (by decide)
  · have hp : pgN v.S (0 + 1) a ++ [] = [a.toNat] := by
      rw [List.append_nil, pgN]
      have : (rdN v.S a (decide (0 = 0))).D.flatMap (pgN v.S 0) = [] := by
        rw [List.flatMap_eq_nil_iff]; intro _ _; rfl
      rw [this]
    rw [hp]
    exact (Fre.cons h6).le (by decide)
  · omega
theorem ti_new {k : Nat} (mu : Nat → Nat) (h : 8 ≤ k ∧ k ≤ 512) : TI k mu [] [] (v0 k) 0 0 [] :=
  ⟨⟨h, DS.new_on k h.2, DS.new_len k, by show 1 < 18446744073709551616; decide, Inv.new k h, Inv.new k h⟩, .inl rfl, rfl, ⟨List.Pairwise.nil, fun e he => by cases he⟩, by decide⟩
/-- the entries with which a disk is filled -/
def eF (i : Nat) : ENT := entA ((7 * i / 1000 : Nat) : Int) ((7 * i % 1000 : Nat) : Int) 0 1
def eL (n : Nat) : List ENT := (List.range n).map eF
theorem eL_len (n : Nat) : (eL n).length = n := by simp [eL]
theorem eL_succ (n : Nat) : eL (n + 1) = eL n ++ [eF n] := by rw [eL, List.range_succ, List.map_append]; rfl
theorem eF_key (i : Nat) (h : i < 400) : (eF i).key = (((7 * i / 1000 : Nat) : Int), ((7 * i % 1000 : Nat) : Int)) ∧ (eF i).fin = ((7 * i % 1000 : Nat) : Int) := by
  refine ⟨Prod.ext ?_ ?_, ?_⟩
  · show ((7 * i / 1000 : Nat) : Int) % 18446744073709551616 % 4 = _
    omega
  · show ((7 * i % 1000 : Nat) : Int) % 1000 = _
    omega
  · show ((7 * i % 1000 : Nat) : Int) % 1000 + 0 % 18446744073709551616 % 6 = _
    omega
theorem eF_less {i j : Nat} (h : i < j) (hj : j < 400) : lessK (eF i).key (eF j).key = true := by
  rw [(eF_key i (by omega)).1, (eF_key j hj).1]
  unfold lessK
  rw [Bool.or_eq_true, Bool.and_eq_true, decide_eq_true_eq, decide_eq_true_eq, decide_eq_true_eq]
  simp only
  omega
theorem eF_meets {i j : Nat} (h : i < j) (hj : j < 400) : meetsE (eF j) (eF i) = false := by
  obtain ⟨k1, k2⟩ := eF_key i (by omega)
  obtain ⟨k3, k4⟩ := eF_key j hj
  rw [meetsE, k1, k2, k3, k4]
  rw [Bool.and_eq_false_iff, Bool.and_eq_false_iff, decide_eq_false_iff_not, decide_eq_false_iff_not, decide_eq_false_iff_not]
  simp only
  omega
theorem eL_mem {n : Nat} {y : ENT} (h : y ∈ eL n) : ∃ i, i < n ∧ y = eF i := by
  obtain ⟨i, hi, rfl⟩ := List.mem_map.1 h
  exact ⟨i, List.mem_range.1 hi, rfl⟩
theorem eL_asc {n : Nat} (hn : n < 400) : ∀ y ∈ eL n, lessK (eF n).key y.key = false := fun y hy => by
  obtain ⟨i, hi, rfl⟩ := eL_mem hy
  exact lessK_asym (eF_less hi hn)
theorem eL_chk {n : Nat} (hn : n < 400) : chkE (eL n) (eF n) = 0 := by
  have h1 : (eL n).any (fun y => decide (y.key = (eF n).key)) = false := by
    rw [List.any_eq_false]
    intro y hy
    obtain ⟨i, hi, rfl⟩ := eL_mem hy
    rw [decide_eq_true_eq]
    intro c
    have h := eF_less hi hn
    rw [c] at h
    rw [lessK_asym h] at h
    cases h
  have h2 : (eL n).any (fun y => meetsE (eF n) y) = false := by
    rw [List.any_eq_false]
    intro y hy
    obtain ⟨i, hi, rfl⟩ := eL_mem hy
    rw [eF_meets hi hn]; simp
  rw [chkE, if_neg (by rw [h1]; simp), if_neg (by rw [h2]; simp)]
theorem eL_ins {n : Nat} (hn : n < 400) : insE (eL n) (eF n) = eL (n + 1) := by
  obtain ⟨h1, h2⟩ := tw_left (p := fun y : ENT => !lessK (eF n).key y.key) (A := eL n) (B := []) (fun a ha => by rw [eL_asc hn a ha]; rfl)
  rw [List.append_nil] at h1 h2
  rw [insE, h1, h2, eL_succ, List.takeWhile_nil, List.append_nil, List.dropWhile_nil]
/-- one entry more -/
theorem fill_step {k i : Nat} {v : VS} {a : Int} {h : Nat} (ti : TI k mu4 [] [] v a h (eL i)) (hi : i < 200) (hW : v.S.W.length ≤ 60 * i) :
    iG v a h (eF i) ∧ ((∃ v' t H, iN v a h (eF i) = (v', (((t : Nat) : Int), H), 0) ∧ TI k mu4 [] [] v' (t : Int) H (eL (i + 1)) ∧ v'.S.W.length ≤ 60 * (i + 1)) ∨ ((iN v a h (eF i)).2.2 = 5 ∧ 7 < i)) := by
  have hok := entA_ok ((7 * i / 1000 : Nat) : Int) ((7 * i % 1000 : Nat) : Int) 0 1
  have hR := entA_R ((7 * i / 1000 : Nat) : Int) ((7 * i % 1000 : Nat) : Int) 0 1
  have hc := eL_chk (n := i) (by omega)
  refine ⟨iG_of mu4_lim ti hok hR (eL_asc (by omega)) (by omega), ?_⟩
  rcases i_spec mu4_lim ti hok hR hc with ⟨v', t, H, e, ti', hW', _, _⟩ | ⟨e5, hn⟩
  · have ti2 : TI k mu4 [] [] v' (t : Int) H (eL (i + 1)) := by rw [← eL_ins (show i < 400 by omega)]; exact ti'
    exact .inl ⟨v', t, H, e, ti2, by omega⟩
  · refine .inr ⟨e5, ?_⟩
    by_cases c : 7 < i
    · exact c
    · obtain ⟨r1, r2⟩ := ti_room ti (by rw [eL_len]; omega)
      exact (hn.elim (fun q => q r1) r2).elim
/-- it ends -/
theorem fill_end {k i : Nat} {v : VS} {a : Int} {h : Nat} (ti : TI k mu4 [] [] v a h (eL i)) (hk : k ≤ 17) : i < 200 := by
  have hf := ti.vg.m.free
  have hE := eL_len i
  rcases ti.g with h0 | g
  · subst h0
    have : eL i = [] := ti.ents.symm
    rw [this] at hE
    have : (0 : Nat) = i := hE
    omega
  · have h1 := tk_len h (rmin h) a g
    rw [ti.ents, hE] at h1
    rw [List.append_nil] at hf
    omega
/-- the one entry -/
def gX : ENT := ⟨(1, 5), 6, 2, 9, 2, 0, 0⟩
theorem gX_ok : entOk gX = true := by decide
theorem gX_R : entR gX := ⟨by unfold i64R gX; decide, by unfold i64R gX; decide, by unfold gX; decide⟩
/-- an entry that is put is there -/
theorem grow_facts : ∃ (v' : VS) (t : Nat), iG (v0 20) 0 0 gX ∧ iN (v0 20) 0 0 gX = (v', ((t : Int), 1), 0) ∧ v'.ok ∧ v'.S.W.length ≤ 60 ∧ fdG v'.S 1 (t : Int) gX.key ∧ fdN v'.S 1 (t : Int) gX.key = (gX, 0) ∧
    iG v' (t : Int) 1 gX ∧ iN v' (t : Int) 1 gX = (v', (0, 0), 11) ∧ freeM v'.m = 17 := by
  have h20 : 8 ≤ 20 ∧ 20 ≤ 512 := by decide
  have t0 := ti_new (k := 20) mu4 h20
  have hins : insE [] gX = [gX] := rfl
  have g0 : iG (v0 20) 0 0 gX := iG_of mu4_lim t0 gX_ok gX_R (fun y hy => by cases hy) (by show 0 ≤ 600000; decide)
  rcases i_spec mu4_lim t0 gX_ok gX_R rfl with ⟨v', t, H, e, ti, hW, _, hH⟩ | ⟨_, hn⟩
  · rw [hins] at ti
    have hl := ti_low ti (by show 1 ≤ 7; decide)
    have hH1 : H = 1 := by omega
    subst hH1
    have hW0 : v'.S.W.length ≤ 60 := by
      have : (v0 20).S.W.length = 0 := rfl
      omega
    have tg := ti.g.resolve_left (by decide)
    have hee := ti.ents
    have hfr := ti.vg.m.free
    obtain ⟨⟨p, hp, hp2⟩, g1, g2, g3, ⟨g4, g5, g6⟩, g7, g8⟩ := tg
    have hd1 : decide ((0 : Nat) = 0) = true := rfl
    have hD : (rdN v'.S (t : Int) true).D = [] := g3.2
    have hK : (rdN v'.S (t : Int) true).K = [] := g3.1
    have hE : (rdN v'.S (t : Int) true).E = [gX] := by
      rw [wkE, hd1, hD, List.flatMap_nil, List.append_nil] at hee
      exact hee
    have hpg : (pgN v'.S (0 + 1) (t : Int) ++ []).length = 1 := by
      rw [List.append_nil, pgN, hd1, hD]; rfl
    rw [hpg] at hfr
    refine ⟨v', t, g0, e, ti.vg.ok, hW0, ?_, ?_, iG_of mu4_lim ti gX_ok gX_R (fun y hy => ?_) (by omega), ?_, by omega⟩
    · refine ⟨by omega, g1, ?_, ?_, fun c => absurd rfl c⟩
      · rw [hd1, hE]; show 1 ≤ 1000; decide
      · rw [hd1, hK]; exact Nat.zero_le _
    · rw [fdN, if_pos rfl, hE]; rfl
    · rw [List.mem_singleton.1 hy]; rfl
    · have hc : chkE [gX] gX = 11 := rfl
      rw [iN, ti.ents, hc, if_pos (by decide)]
  · exact (hn.elim (fun q => q ((free_at (k := 20) (by decide)).le (by decide))) (by decide)).elim
end Go.Proofs.Ytckdlfbbkemklaa
end
section
/- tree: a view's Node: the walk. -/
namespace Go.Proofs.Ytckdlfbbkemklaa
open Go Go.RowKit Go.Gv
set_option linter.unusedVariables false
set_option linter.unusedSimpArgs false

set_option maxHeartbeats 8000000 in
theorem view_Node (pv d : Nat) (v : VS) (a : Int) (leaf : Bool) (hv : v.ok) (hl : v.S.W.length ≤ 1000000) (ha : -1000000 ≤ a ∧ a ≤ 1000000) :
    Gv.Spec Try.prog 104 #[.pointer (some ⟨pv, 0, none⟩), .int .i64 a, .bool leaf] [blk pv 194 (viewL d v), DSK d v.S]
    (fun r H' => ∃ A c B e C f, r = .tuple #[ndW (rdN v.S a leaf).leaf (.slice A (rdN v.S a leaf).E.length c) (.slice B (rdN v.S a leaf).K.length e) (.slice C (rdN v.S a leaf).D.length f), .int .i64 ((rdN v.S a leaf).e : Int)]
      ∧ H' = [blk pv 194 (viewL d v), DSK d v.S, own 100 8 (.slice A (rdN v.S a leaf).E.length c) (rdN v.S a leaf).E.length (EL (rdN v.S a leaf).E), own 98 2 (.slice B (rdN v.S a leaf).K.length e) (rdN v.S a leaf).K.length (KL (rdN v.S a leaf).K), own 3 1 (.slice C (rdN v.S a leaf).D.length f) (rdN v.S a leaf).D.length (NL (rdN v.S a leaf).D)]) := by
  refine Gv.Spec.of (fun w h0 hw => ?_)
  refine Calls.enter Try.func104 rfl rfl rfl hw ?_
  simp only [argSlots]
  (try dsimp only [List.cons_append, List.nil_append])
  (refine Tri.seq (Tri.region ?_); apply Tri.op; rfl)
  (apply o_alloc; (case hn => rfl); intro b6)
  (apply Tri.op; rfl; apply o_assign; rfl; rfl; refine Tri.nil (Tri.thenN (Tri.seq (Tri.seq (Tri.region ?_)))); apply Tri.op; rfl; apply o_move; rfl; rfl; apply Tri.op; rfl; apply o_eqlN; rfl; rfl; rfl; refine Tri.nil (Tri.thenN ?_))
  ((with_reducible apply Tri.setb 12 (false)); (case h => rfl); (case hi => rfl))
  (apply Tri.condF; rfl; rfl; refine Tri.skip (Tri.thenN ?_))
  refine Tri.seq ?_
  (refine Tri.region ?_; apply Tri.op; rfl; apply o_assign; rfl; rfl; refine Tri.nil (Tri.thenN ?_))
  (apply Tri.seqMeet (α := Unit) (Lx := fun _ => [(0, .pointer (some ⟨pv, 0, none⟩)), (1, .int .i64 a), (2, .bool leaf), (6, .pointer (some ⟨b6, 0, none⟩)), (7, .int .i64 0), (8, .int .u8 ((kindN leaf).toNat : Int))]) (Hx := fun _ => [blk b6 33 (ndLL false (.slice none 0 0) (.slice none 0 0) (.slice none 0 0)), blk pv 194 (viewL d v), DSK d v.S, Ex h0]); rotate_left; (rintro ⟨⟩; (try dsimp only)); rotate_left)
  · cases leaf
    · (refine Tri.seq (Tri.region ?_); apply Tri.op; rfl; apply o_move; rfl; rfl; refine Tri.nil (Tri.thenN ?_); apply Tri.condF; rfl; rfl; refine Tri.skip (Tri.thenN ?_))
      ((with_reducible apply Tri.seti 8 (((kindN false).toNat : Int))); (case h => rfl); (case hi => rfl))
      ((with_reducible apply Tri.eqA (A := blk b6 _ _) (B := blk b6 33 (ndLL false (.slice none 0 0) (.slice none 0 0) (.slice none 0 0)))); (case p => (with_reducible repeat constructor)); (case e => rfl))
      (apply Tri.reach (y := ()); (case hL => ((try dsimp only); (repeat (first | exact trivial | refine And.intro (by rfl) ?_)))); (case p => ((try dsimp only); (repeat (first | exact Pulls.nil | (apply Pulls.cons; (case a => (first | ((repeat (first | with_reducible exact Gv.Pull.head | with_reducible apply Gv.Pull.tail)); done) | (repeat (first | exact Gv.Pull.head | apply Gv.Pull.tail))))))))))
    · (refine Tri.seq (Tri.region ?_); apply Tri.op; rfl; apply o_move; rfl; rfl; refine Tri.nil (Tri.thenN ?_); apply Tri.condT; rfl; rfl; refine Tri.region ?_; apply Tri.op; rfl; apply o_assign; rfl; rfl; refine Tri.nil (Tri.thenN ?_))
      ((with_reducible apply Tri.seti 8 (((kindN true).toNat : Int))); (case h => rfl); (case hi => rfl))
      ((with_reducible apply Tri.eqA (A := blk b6 _ _) (B := blk b6 33 (ndLL false (.slice none 0 0) (.slice none 0 0) (.slice none 0 0)))); (case p => (with_reducible repeat constructor)); (case e => rfl))
      (apply Tri.reach (y := ()); (case hL => ((try dsimp only); (repeat (first | exact trivial | refine And.intro (by rfl) ?_)))); (case p => ((try dsimp only); (repeat (first | exact Pulls.nil | (apply Pulls.cons; (case a => (first | ((repeat (first | with_reducible exact Gv.Pull.head | with_reducible apply Gv.Pull.tail)); done) | (repeat (first | exact Gv.Pull.head | apply Gv.Pull.tail))))))))))
  skip
  obtain ⟨R, hR⟩ : ∃ R, R = rdPg v.S a (kindN leaf) := ⟨_, rfl⟩
  have hrd := page_Read d v.S a (kindN leaf) hv.S hl ha
  rw [← hR] at hrd
  (apply Tri.seqMeet (α := Σ' (_ : Nat) (_ : Option Addr), Nat) (Lx := fun x => [(2, .bool leaf), (6, .pointer (some ⟨b6, 0, none⟩)), (9, .pointer (some ⟨x.1, 0, none⟩)), (10, .int .i64 (R.2 : Int))]) (Hx := fun x => [blk b6 33 (ndLL false (.slice none 0 0) (.slice none 0 0) (.slice none 0 0)), blk pv 194 (viewL d v), DSK d v.S, blk x.1 135 (pgL R.1 (.slice x.2.1 R.1.b.length x.2.2)), own 5 1 (.slice x.2.1 R.1.b.length x.2.2) R.1.b.length (B8 R.1.b), Ex h0]); rotate_left; (rintro ⟨b9, A, c⟩; (try dsimp only)); rotate_left)
  · skip
    ((first | with_reducible apply Tri.mix [blk pv 194 (viewL d v)] | (apply TriR.mix [blk pv 194 (viewL d v)]; (case hnd => rfl))); (case p => (repeat first | with_reducible constructor | constructor)); (dsimp only [List.length]))
    ((first | (apply TriM.q 0; rfl; rfl) | (apply TriM.qYes 0; rfl; rfl; rfl; with_reducible rfl)); kernel_rfl; rfl; rfl; (intro F K hK; apply o_move; rfl; rfl; exact hK); (first | (apply TriM.q 1; rfl; rfl) | (apply TriM.qYes 1; rfl; rfl; rfl; with_reducible rfl)); kernel_rfl; rfl; rfl; (intro F K hK; apply o_nilCheck; rfl; rfl; exact hK); (first | (apply TriM.q 2; rfl; rfl) | (apply TriM.qYes 2; rfl; rfl; rfl; with_reducible rfl)); kernel_rfl; rfl; rfl; (intro F K hK; apply o_fieldAddr; rfl; rfl; exact hK))
    ((first | (apply TriM.q 3; (case ho => rfl); (case hg => rfl)) | (apply TriM.qYes 3; (case ho => rfl); (case hg => rfl); (case hyl => rfl); (case hb => with_reducible rfl))); (case hB => kernel_rfl); (case hd => rfl); (case hn => rfl); (case h => (intro F K hK; (try dsimp only [List.cons_append, List.nil_append]); (apply o_loadAgg; (case hx => rfl); (case p => (with_reducible repeat constructor)); (case hv => exact viewL_tab d v); (case hl => exact tabL_length); (case hn => rfl)); exact hK)))
    ((first | (apply TriM.q 4; rfl; rfl) | (apply TriM.qYes 4; rfl; rfl; rfl; with_reducible rfl)); kernel_rfl; rfl; rfl; (intro F K hK; apply o_move; rfl; rfl; exact hK); (first | (apply TriM.q 5; rfl; rfl) | (apply TriM.qYes 5; rfl; rfl; rfl; with_reducible rfl)); kernel_rfl; rfl; rfl; (intro F K hK; apply o_nilCheck; rfl; rfl; exact hK); (first | (apply TriM.q 6; rfl; rfl) | (apply TriM.qYes 6; rfl; rfl; rfl; with_reducible rfl)); kernel_rfl; rfl; rfl; (intro F K hK; apply o_fieldAddr; rfl; rfl; exact hK))
    ((first | (apply TriM.q 7; (case ho => rfl); (case hg => rfl)) | (apply TriM.qYes 7; (case ho => rfl); (case hg => rfl); (case hyl => rfl); (case hb => with_reducible rfl))); (case hB => kernel_rfl); (case hd => rfl); (case hn => rfl); (case h => (intro F K hK; (try dsimp only [List.cons_append, List.nil_append]); (apply o_load; (case hx => rfl); (case p => (with_reducible repeat constructor)); (case hv => exact viewL_d d v); (case hn => rfl)); exact hK)))
    ((first | (apply TriM.q 8; rfl; rfl) | (apply TriM.qYes 8; rfl; rfl; rfl; with_reducible rfl)); kernel_rfl; rfl; rfl; (intro F K hK; apply o_move; rfl; rfl; exact hK); (first | (apply TriM.q 9; rfl; rfl) | (apply TriM.qYes 9; rfl; rfl; rfl; with_reducible rfl)); kernel_rfl; rfl; rfl; (intro F K hK; apply o_move; rfl; rfl; exact hK))
    (apply TriM.a2 10 14; (case hoi => rfl); (case hoj => rfl); (case hgi => rfl); (case hgj => rfl); (case hr => kernel_rfl); (all_goals (try dsimp only [List.cons_append, List.nil_append])))
    · (apply o_callS (hs := hrd); (case hargs => (repeat first | exact evs.nil | (apply evs.cons; case a => rfl))); (case p => (repeat first | with_reducible constructor | constructor)); (case hn => rfl))
      rintro r H' ⟨A, c, rfl, rfl⟩
      (try dsimp only [List.cons_append, List.nil_append])
      (apply TriM.back; (case p => (repeat first | with_reducible constructor | constructor)))
      ((first | (apply TriM.q 11; rfl; rfl) | (apply TriM.qYes 11; rfl; rfl; rfl; with_reducible rfl)); kernel_rfl; rfl; rfl; (intro F K hK; apply o_move; rfl; rfl; exact hK); (first | (apply TriM.q 12; rfl; rfl) | (apply TriM.qYes 12; rfl; rfl; rfl; with_reducible rfl)); kernel_rfl; rfl; rfl; (intro F K hK; apply o_extract; rfl; rfl; rfl; exact hK); (first | (apply TriM.q 13; rfl; rfl) | (apply TriM.qYes 13; rfl; rfl; rfl; with_reducible rfl)); kernel_rfl; rfl; rfl; (intro F K hK; apply o_extract; rfl; rfl; rfl; exact hK))
      (apply TriM.a 14; (case ho => rfl); (case hg => rfl); (case hr => kernel_rfl); (try dsimp only [List.cons_append, List.nil_append]))
      (apply o_alloc; (case hn => rfl); intro b9)
      (apply TriM.back; (case p => (repeat first | with_reducible constructor | constructor)))
      (apply TriM.a 15; (case ho => rfl); (case hg => rfl); (case hr => kernel_rfl); (try dsimp only [List.cons_append, List.nil_append]))
      (apply o_storeAll (ys := pgL R.1 (.slice A R.1.b.length c)); (case hx => rfl); (case hy => rfl); (case p => (with_reducible repeat constructor)); (case hl => exact pgL_len R.1 (.slice A R.1.b.length c)); (case hc => rfl); (case h1 => exact pgL_one R.1 A _ c))
      (apply TriM.back; (case p => (repeat first | with_reducible constructor | constructor)))
      ((first | (apply TriM.q 16; rfl; rfl) | (apply TriM.qYes 16; rfl; rfl; rfl; with_reducible rfl)); kernel_rfl; rfl; rfl; (intro F K hK; apply o_assign; rfl; rfl; exact hK))
      (apply TriM.nil; (case hr => kernel_rfl); (try dsimp only [List.cons_append, List.nil_append]))
      (refine Tri.thenN ?_)
      (apply Tri.reach (y := ⟨b9, A, c⟩); (case hL => ((try dsimp only); (repeat (first | exact trivial | refine And.intro (by rfl) ?_)))); (case p => ((try dsimp only); (repeat (first | exact Pulls.nil | (apply Pulls.cons; (case a => (first | ((repeat (first | with_reducible exact Gv.Pull.head | with_reducible apply Gv.Pull.tail)); done) | (repeat (first | exact Gv.Pull.head | apply Gv.Pull.tail))))))))))
    · (apply o_alloc; (case hn => rfl); intro b9)
      (apply TriM.back; (case p => (repeat first | with_reducible constructor | constructor)))
      (apply TriM.a 10; (case ho => rfl); (case hg => rfl); (case hr => kernel_rfl); (try dsimp only [List.cons_append, List.nil_append]))
      (apply o_callS (hs := hrd); (case hargs => (repeat first | exact evs.nil | (apply evs.cons; case a => rfl))); (case p => (repeat first | with_reducible constructor | constructor)); (case hn => rfl))
      rintro r H' ⟨A, c, rfl, rfl⟩
      (try dsimp only [List.cons_append, List.nil_append])
      (apply TriM.back; (case p => (repeat first | with_reducible constructor | constructor)))
      ((first | (apply TriM.q 11; rfl; rfl) | (apply TriM.qYes 11; rfl; rfl; rfl; with_reducible rfl)); kernel_rfl; rfl; rfl; (intro F K hK; apply o_move; rfl; rfl; exact hK); (first | (apply TriM.q 12; rfl; rfl) | (apply TriM.qYes 12; rfl; rfl; rfl; with_reducible rfl)); kernel_rfl; rfl; rfl; (intro F K hK; apply o_extract; rfl; rfl; rfl; exact hK); (first | (apply TriM.q 13; rfl; rfl) | (apply TriM.qYes 13; rfl; rfl; rfl; with_reducible rfl)); kernel_rfl; rfl; rfl; (intro F K hK; apply o_extract; rfl; rfl; rfl; exact hK))
      (apply TriM.a 15; (case ho => rfl); (case hg => rfl); (case hr => kernel_rfl); (try dsimp only [List.cons_append, List.nil_append]))
      (apply o_storeAll (ys := pgL R.1 (.slice A R.1.b.length c)); (case hx => rfl); (case hy => rfl); (case p => (with_reducible repeat constructor)); (case hl => exact pgL_len R.1 (.slice A R.1.b.length c)); (case hc => rfl); (case h1 => exact pgL_one R.1 A _ c))
      (apply TriM.back; (case p => (repeat first | with_reducible constructor | constructor)))
      ((first | (apply TriM.q 16; rfl; rfl) | (apply TriM.qYes 16; rfl; rfl; rfl; with_reducible rfl)); kernel_rfl; rfl; rfl; (intro F K hK; apply o_assign; rfl; rfl; exact hK))
      (apply TriM.nil; (case hr => kernel_rfl); (try dsimp only [List.cons_append, List.nil_append]))
      (refine Tri.thenN ?_)
      (apply Tri.reach (y := ⟨b9, A, c⟩); (case hL => ((try dsimp only); (repeat (first | exact trivial | refine And.intro (by rfl) ?_)))); (case p => ((try dsimp only); (repeat (first | exact Pulls.nil | (apply Pulls.cons; (case a => (first | ((repeat (first | with_reducible exact Gv.Pull.head | with_reducible apply Gv.Pull.tail)); done) | (repeat (first | exact Gv.Pull.head | apply Gv.Pull.tail))))))))))
  have hN : rdN v.S a leaf = if R.2 = 0 then getN leaf R.1.b else ⟨false, [], [], [], R.2⟩ := by rw [rdN, ← hR]
  by_cases hz : R.2 = 0
  · rw [if_pos hz] at hN
    rw [hN]
    (refine Tri.seq (Tri.seq (Tri.region ?_)); apply Tri.op; rfl; apply o_move; rfl; rfl; apply Tri.op; rfl; apply o_neq; rfl; rfl; rfl; refine Tri.nil (Tri.thenN ?_))
    ((with_reducible apply Tri.setb 30 (false)); (case h => rfl); (case hi => (rw [hz]; rfl)))
    (apply Tri.condF; rfl; rfl; refine Tri.skip (Tri.thenN (Tri.seq (Tri.region ?_))); apply Tri.op; rfl; apply o_move; rfl; rfl; apply Tri.op; rfl; apply o_fieldAddr; rfl; rfl; apply Tri.op; rfl; apply o_load; rfl; (with_reducible repeat constructor); rfl; rfl; apply Tri.op; rfl)
    (apply o_callR (hs := node_GetN leaf (.slice A R.1.b.length c) R.1.b); (case hargs => (repeat first | exact evs.nil | (apply evs.cons; case a => rfl))); (case hpre => exact rdw_own (v := .slice A R.1.b.length c) (by (with_reducible repeat constructor))); (case hn => rfl))
    rintro r3 H3 ⟨A1, c1, B1, d1, C1, e1, rfl, rfl⟩
    (try dsimp only [List.cons_append, List.nil_append])
    generalize getN leaf R.1.b = G at *
    (apply Tri.op; rfl; apply o_extract; rfl; rfl; rfl; apply Tri.op; rfl; apply o_extract; rfl; rfl; rfl; apply Tri.op; rfl)
    (apply o_storeAll (ys := ndLL G.leaf (.slice A1 G.E.length c1) (.slice B1 G.K.length d1) (.slice C1 G.D.length e1)); (case hx => rfl); (case hy => rfl); (case p => (with_reducible repeat constructor)); (case hl => rfl); (case hc => rfl); (case h1 => exact ndLL_one G.leaf A1 B1 C1 _ c1 _ d1 _ e1))
    (apply Tri.op; rfl; apply o_assign; rfl; rfl; refine Tri.nil (Tri.thenN (Tri.ret ?_)))
    (apply Tri.fin; (case hr => rfl); (case h => exact ResL.cons ((Res1.agg rfl (by (with_reducible repeat constructor)) (by rw [List.drop_zero]; exact List.take_of_length_le (Nat.le_of_eq (rfl : (ndLL G.leaf (.slice A1 G.E.length c1) (.slice B1 G.K.length d1) (.slice C1 G.D.length e1)).length = 4))) (rfl : (ndLL G.leaf (.slice A1 G.E.length c1) (.slice B1 G.K.length d1) (.slice C1 G.D.length e1)).length = 4))) (ResL.cons (Res1.tmp rfl) (ResL.nil))); (apply fin_R (Hn := [blk pv 194 (viewL d v), DSK d v.S, own 100 8 (.slice A1 G.E.length c1) G.E.length (EL G.E), own 98 2 (.slice B1 G.K.length d1) G.K.length (KL G.K), own 3 1 (.slice C1 G.D.length e1) G.D.length (NL G.D)])); (case p => exact (by (repeat first | with_reducible constructor | constructor))); exact ⟨A1, c1, B1, d1, C1, e1, rfl, rfl⟩)
  · rw [if_neg hz] at hN
    rw [hN]
    (refine Tri.seq (Tri.seq (Tri.region ?_)); apply Tri.op; rfl; apply o_move; rfl; rfl; apply Tri.op; rfl; apply o_neq; rfl; rfl; rfl; refine Tri.nil (Tri.thenN ?_))
    ((with_reducible apply Tri.setb 30 (true)); (case h => rfl); (case hi => (rw [decide_eq_true]; omega)))
    (apply Tri.condT; rfl; rfl; refine Tri.seq (Tri.region ?_); apply Tri.op; rfl; apply o_build0; rfl; apply Tri.op; rfl; apply o_move; rfl; rfl; apply Tri.op; rfl)
    (apply o_storeAll (ys := ndLL false (.slice none 0 0) (.slice none 0 0) (.slice none 0 0)); (case hx => rfl); (case hy => rfl); (case p => (with_reducible repeat constructor)); (case hl => rfl); (case hc => rfl); (case h1 => exact ndLL_one false none none none 0 0 0 0 0 0))
    (apply Tri.op; rfl; apply o_assign; rfl; rfl; refine Tri.nil (Tri.thenN (Tri.ret (Tri.thenR ?_))))
    (with_reducible apply Tri.ownNil 100 8)
    (with_reducible apply Tri.ownNil 98 2)
    (with_reducible apply Tri.ownNil 3 1)
    (apply Tri.fin; (case hr => rfl); (case h => exact ResL.cons ((Res1.agg rfl (by (with_reducible repeat constructor)) (by rw [List.drop_zero]; exact List.take_of_length_le (Nat.le_of_eq (rfl : (ndLL false (.slice none 0 0) (.slice none 0 0) (.slice none 0 0)).length = 4))) (rfl : (ndLL false (.slice none 0 0) (.slice none 0 0) (.slice none 0 0)).length = 4))) (ResL.cons (Res1.tmp rfl) (ResL.nil))); (apply fin_R (Hn := [blk pv 194 (viewL d v), DSK d v.S, own 100 8 (.slice none 0 0) 0 [], own 98 2 (.slice none 0 0) 0 [], own 3 1 (.slice none 0 0) 0 []])); (case p => exact (by (repeat first | with_reducible constructor | constructor))); exact ⟨none, 0, none, 0, none, 0, rfl, rfl⟩)
end Go.Proofs.Ytckdlfbbkemklaa
end
section
/- Loops over functions whose captured memory turns while they go. -/
namespace Go.Gv
open Go Go.RowKit
set_option linter.unusedVariables false
set_option linter.unusedSimpArgs false

/-- a function that calls yield with some rows of values, one behind the other; what it holds turns: at first, where a row is refused, at the end -/
def IterS (P : Program) (g : FuncId) (lb : List Value) (C0 : List Atom) (Cj : Nat → List Atom) (Ce : List Atom) (xs : List (List Value)) : Prop :=
  ∀ (w0 : World) (l : Nat) (I J : Nat → Atom), (∀ k vs, xs[k]? = some vs → YSpec P w0 l vs.toArray (I k) (I (k + 1)) (J k)) → ∀ w H, St w0 w (I 0 :: (C0 ++ H)) →
    Calls P g (#[.func (.yield l) #[] #[]] ++ lb.toArray) w (Ret fun _ w' => St w0 w' (I xs.length :: (Ce ++ H)) ∨ ∃ k, k < xs.length ∧ St w0 w' (J k :: (Cj k ++ H)))
section
variable {P : Program} {w0 : World} {n : NT} {L : Slots} {H H' : List Atom} {Q : Exit → Act → World → Prop} {G : Act → World → Prop} {ro : Option Nat}
end
/-- a contract that holds for one world at the start (it speaks of a loop that is under way) -/
def SpecW (P : Program) (w0 : World) (f : FuncId) (args : Array Value) (Pre : List Atom) (R : Value → List Atom → Prop) : Prop :=
  ∀ w H, St w0 w (Pre ++ H) → Calls P f args w (Ret fun v w' => ∃ H', R v H' ∧ St w0 w' (H' ++ H))
theorem SpecW.of {P : Program} {w0 : World} {f : FuncId} {args : Array Value} {Pre : List Atom} {R : Value → List Atom → Prop}
    (h : ∀ w h0, St w0 w (Pre ++ [Ex h0]) → Calls P f args w (Ret fun v w' => ∃ H', R v H' ∧ St w0 w' (H' ++ [Ex h0]))) : SpecW P w0 f args Pre R := fun w H hw => by
  obtain ⟨h0, h1, h2⟩ := St.aside hw
  refine (h w h0 h1).mono ?_
  intro e w' he
  cases e with
  | returned v => obtain ⟨H', q1, q2⟩ := he; exact ⟨H', q1, h2 w' _ q2⟩
  | panicked c => exact he.elim
  | outgrown => exact he.elim
section
variable {P : Program} {w0 : World} {n : NT} {L : Slots} {H H' : List Atom} {K : Act → World → Prop} {Q : Exit → Act → World → Prop} {d : Nat} {ty : TypeId} {pos : String} {aft : Array Edge} {g : Option (Nat × Bool)}
end
theorem IterS.of {P : Program} {g : FuncId} {lb : List Value} {C0 : List Atom} {Cj : Nat → List Atom} {Ce : List Atom} {xs : List (List Value)}
    (h : ∀ (w0 : World) (l : Nat) (I J : Nat → Atom), (∀ k vs, xs[k]? = some vs → YSpec P w0 l vs.toArray (I k) (I (k + 1)) (J k)) → ∀ w h0, St w0 w ((I 0 :: C0) ++ [Ex h0]) →
      Calls P g ((.func (.yield l) #[] #[] :: lb).toArray) w (Ret fun _ w' => St w0 w' ((I xs.length :: Ce) ++ [Ex h0]) ∨ ∃ k, k < xs.length ∧ St w0 w' ((J k :: Cj k) ++ [Ex h0]))) : IterS P g lb C0 Cj Ce xs := fun w0 l I J hY w H hw => by
  have hw' : St w0 w ((I 0 :: C0) ++ H) := hw
  obtain ⟨h0, h1, h2⟩ := St.aside hw'
  have e : (#[.func (.yield l) #[] #[]] ++ lb.toArray : Array Value) = (.func (.yield l) #[] #[] :: lb).toArray := by simp
  rw [e]
  refine (h w0 l I J hY w h0 h1).mono ?_
  intro e w' he
  cases e with
  | returned v =>
    rcases he with q | ⟨k, hk, q⟩
    · exact .inl (h2 w' _ q)
    · exact .inr ⟨k, hk, h2 w' _ q⟩
  | panicked c => exact he.elim
  | outgrown => exact he.elim
end Go.Gv
end
section
/- walk: a walker's each: the walk. -/
namespace Go.Proofs.Ytckdlfbbkemklaa
open Go Go.RowKit Go.Gv
set_option linter.unusedVariables false
set_option linter.unusedSimpArgs false

theorem nl_get (D : List Int) (j : Nat) : (NL D)[j]? = (D[j]?).map (.int .i64) := by simp [NL]
end Go.Proofs.Ytckdlfbbkemklaa
end
section
/- walk: Take: the walk. -/
namespace Go.Proofs.Ytckdlfbbkemklaa
open Go Go.RowKit Go.Gv
set_option linter.unusedVariables false
set_option linter.unusedSimpArgs false

def rootL (a h : Int) : List Value := [.int .i64 a, .int .i64 h]
def rootV (a h : Int) : Value := .agg (rootL a h).toArray
end Go.Proofs.Ytckdlfbbkemklaa
end
section
/- Regions whose order is open, in which a late operation turns what quiet operations ahead of it have read. -/
namespace Go.Gv
open Go Go.RowKit
set_option linter.unusedVariables false
set_option linter.unusedSimpArgs false

section
variable {P : Program} {ops : Array Oper} {md : Region.Mode} {Q : Exit → Act → World → Prop}

theorem getD_set_self {listed : Array Bool} {i : Nat} (h : listed.getD i true = false) : (listed.setIfInBounds i true).getD i false = true := by
  rcases Nat.lt_or_ge i listed.size with h' | h'
  · simp [h']
  · simp [Array.getElem?_eq_none h'] at h
/-- two classes: one as long as operation s is to come, one behind it -/
def D2 (s : Nat) (Ds Dw : WP → Prop) (ls : Array Bool) (D : WP) : Prop := if ls.getD s false = true then Dw D else Ds D

def mAny2 (P : Program) (md : Region.Mode) (ops : Array Oper) (s : Nat) (Ds Dw : WP → Prop) (Q : Exit → Act → World → Prop) : Nat → Array Bool → Act → WP → Prop
  | 0, listed, a, D => Region.ready md ops listed = [] ∧ ∀ w, D w → Q .normal a w
  | f + 1, listed, a, D => (Region.ready md ops listed = [] → ∀ w, D w → Q .normal a w) ∧ ∀ i ∈ Region.ready md ops listed, mOp P ops (D2 s Ds Dw (listed.setIfInBounds i true)) i (mAny2 P md ops s Ds Dw Q f (listed.setIfInBounds i true)) a D

variable {s : Nat} {Ds Dw : WP → Prop}

theorem any_of_m2 : ∀ (f : Nat) (listed : Array Bool) (a : Act) (D : WP) (w : World), D w → mAny2 P md ops s Ds Dw Q f listed a D → wpAny P md ops Q f listed a w
  | 0, _, _, _, w, hw, h => ⟨h.1, h.2 w hw⟩
  | f + 1, listed, a, D, w, hw, h => by
    refine ⟨fun h0 => h.1 h0 w hw, fun i hi => ?_⟩
    have hs := h.2 i hi
    unfold mOp at hs
    unfold Go.wpOp
    cases ho : ops[i]? with
    | none => simp only [ho] at hs ⊢; exact any_of_m2 f _ _ _ _ hw hs
    | some o =>
      simp only [ho] at hs ⊢
      by_cases hwt : Region.wanted o (yielded ops a.tmps) = true
      · rw [if_pos hwt] at hs ⊢
        refine .inl (Oper.wp_mono ?_ (wp_false_mono (hs w hw)))
        rintro a' w' ⟨D', _, hd, hk⟩
        exact any_of_m2 f _ _ _ _ hd hk
      · rw [if_neg hwt] at hs ⊢
        exact any_of_m2 f _ _ _ _ hw hs

/-- behind s there is one class only -/
theorem m2_of_m : ∀ (f : Nat) (listed : Array Bool) (a : Act) (D : WP), listed.getD s false = true → mAny P md ops Dw Q f listed a D → mAny2 P md ops s Ds Dw Q f listed a D
  | 0, _, _, _, _, h => h
  | f + 1, listed, a, D, hl, h => by
    refine ⟨h.1, fun i hi => ?_⟩
    have hs := h.2 i hi
    have hl' : (listed.setIfInBounds i true).getD s false = true := getD_set_true hl
    have hDD : D2 s Ds Dw (listed.setIfInBounds i true) = Dw := by funext D; unfold D2; rw [if_pos hl']
    rw [hDD]
    unfold mOp at *
    cases ho : ops[i]? with
    | none => simp only [ho] at hs ⊢; exact m2_of_m f _ _ _ hl' hs
    | some o =>
      simp only [ho] at hs ⊢
      by_cases hwt : Region.wanted o (yielded ops a.tmps) = true
      · rw [if_pos hwt] at hs ⊢
        intro w hw
        refine Oper.wp_mono ?_ (hs w hw)
        rintro a' w' ⟨E, e1, e2, e3⟩
        exact ⟨E, e1, e2, m2_of_m f _ _ _ hl' e3⟩
      · rw [if_neg hwt] at hs ⊢
        exact m2_of_m f _ _ _ hl' hs

theorem mOp_putY {DD : WP → Prop} {j : Nat} {oi oj : Oper} {v : Value} (hj : ops[j]? = some oj) (hap : oi.apart ops oj = true)
    (hsi : ∀ cs b, oi.op ≠ .select cs b) (hsj : ∀ cs b, oj.op ≠ .select cs b) {K K' : Act → WP → Prop} {a : Act} {D : WP} {Y : Act → Prop}
    (hYs : ∀ a a', Y a → execOp a'.eval oi = execOp a.eval oi → Region.wanted oi (yielded ops a'.tmps) = Region.wanted oi (yielded ops a.tmps) → Y a')
    (hy : Y a) (hD : DD D) (hKK : ∀ a' D', Y a' → DD D' → K (a'.put oi.dst v) D' → K' a' D') (h : mOp P ops DD j K (a.put oi.dst v) D) : mOp P ops DD j K' a D := by
  obtain ⟨h1, h2, h3⟩ := Oper.apart_spec hap
  have keep : ∀ u, Y (a.put oj.dst u) := fun u => hYs _ _ hy (execOp_put oi hsi a oj.dst u h3) (wanted_put oi a oj.dst u h3)
  have keepD : ∀ d, Y { a with defers := d :: a.defers } := fun d => hYs _ _ hy rfl rfl
  have keepDD : ∀ d u, Y (({ a with defers := d :: a.defers } : Act).put oj.dst u) := fun d u => hYs _ _ (keepD d) (execOp_put oi hsi _ oj.dst u h3) (wanted_put oi _ oj.dst u h3)
  unfold mOp at *
  simp only [hj] at *
  rw [wanted_put oj a oi.dst v h1] at h
  split
  · rename_i hw
    rw [if_pos hw] at h
    intro w hd
    have hh := h w hd
    unfold Oper.wp at *
    rw [execOp_put oj hsj a oi.dst v h1] at hh
    generalize (execOp a.eval oj).run P w = r at *
    cases r with
    | halt x w' => cases x <;> exact hh.elim
    | ok nx w' =>
      cases nx <;> simp only [Oper.upon] at hh ⊢
      case value u =>
        obtain ⟨D', e1, e2, e3⟩ := hh
        exact ⟨D', e1, e2, hKK _ _ (keep u) e1 (by rw [Act.put_comm a u v (fun d hd he => h2 d he hd)]; exact e3)⟩
      case skip =>
        obtain ⟨D', e1, e2, e3⟩ := hh
        exact ⟨D', e1, e2, hKK _ _ (keep _) e1 (by rw [Act.put_comm a undef v (fun d hd he => h2 d he hd)]; exact e3)⟩
      case defer d =>
        obtain ⟨D', e1, e2, e3⟩ := hh
        refine ⟨D', e1, e2, hKK _ _ (keepDD d _) e1 ?_⟩
        rw [Act.put_comm _ undef v (fun d hd he => h2 d he hd), ← Act.put_defers]
        exact e3
      case enter f args =>
        refine Calls.mono hh fun e w'' he => ?_
        cases e with
        | returned u =>
          obtain ⟨D', e1, e2, e3⟩ := he
          exact ⟨D', e1, e2, hKK _ _ (keep u) e1 (by rw [Act.put_comm a u v (fun d hd he => h2 d he hd)]; exact e3)⟩
        | panicked c => exact he
        | outgrown => exact he
      case row row args =>
        exact Rows.mono hh fun u w'' he => by
          obtain ⟨D', e1, e2, e3⟩ := he
          exact ⟨D', e1, e2, hKK _ _ (keep u) e1 (by rw [Act.put_comm a u v (fun d hd he => h2 d he hd)]; exact e3)⟩
  · rename_i hw
    rw [if_neg hw] at h
    exact hKK _ _ (keep _) hD (by rw [Act.put_comm a undef v (fun d hd he => h2 d he hd)]; exact h)

/-- what is listed is closed: what it waits for is listed, too -/
def Closed (md : Region.Mode) (ops : Array Oper) (ls : Array Bool) : Prop := ∀ k o, ops[k]? = some o → ls.getD k false = true → ∀ e ∈ o.after, Region.binds md e = true → ls.getD e.on false = true
theorem Closed.set {ls : Array Bool} {j : Nat} (h : Closed md ops ls) (hj : j ∈ Region.ready md ops ls) : Closed md ops (ls.setIfInBounds j true) := by
  obtain ⟨hjun, oj, hoj, hall⟩ := mem_ready.1 hj
  intro k o ho hk e he hb
  by_cases hjk : j = k
  · subst hjk
    rw [hoj] at ho; cases ho
    exact getD_set_true (hall e he hb)
  · rw [getD_set_ne false hjk] at hk
    exact getD_set_true (h k o ho hk e he hb)
def closedB (ops : Array Oper) (ls : Array Bool) : Bool := (List.range ops.size).all fun k => match ops[k]? with
  | none => true
  | some o => !(ls.getD k false) || o.after.toList.all fun e => !(Region.binds .any e) || ls.getD e.on false
theorem closedB_spec {ls : Array Bool} (h : closedB ops ls = true) : Closed .any ops ls := by
  intro k o ho hk e he hb
  have hlt : k < ops.size := by
    rcases Nat.lt_or_ge k ops.size with q | q
    · exact q
    · rw [Array.getElem?_eq_none q] at ho; cases ho
  have h1 := (List.all_eq_true.1 h) k (List.mem_range.2 hlt)
  simp only [ho, hk, Bool.not_true, Bool.false_or] at h1
  have h2 := (List.all_eq_true.1 h1) e (Array.mem_toList_iff.2 he)
  simpa [hb] using h2
/-- does s wait for i, by what it waits for? -/
def ancB (ops : Array Oper) : Nat → Nat → Nat → Bool
  | 0, _, _ => false
  | f + 1, s, i => match ops[s]? with
    | none => false
    | some o => o.after.toList.any fun e => Region.binds .any e && (e.on == i || ancB ops f e.on i)
theorem anc_listed {ls : Array Bool} (hc : Closed .any ops ls) : ∀ (f s i : Nat), ancB ops f s i = true → ls.getD s false = true → ls.getD i false = true
  | 0, _, _, h, _ => by simp [ancB] at h
  | f + 1, s, i, h, hs => by
    unfold ancB at h
    cases ho : ops[s]? with
    | none => simp [ho] at h
    | some o =>
      simp only [ho, List.any_eq_true, Bool.and_eq_true, Bool.or_eq_true, beq_iff_eq] at h
      obtain ⟨e, he, hb, h⟩ := h
      have h1 := hc s o ho hs e (Array.mem_toList_iff.1 he) hb
      rcases h with rfl | h
      · exact h1
      · exact anc_listed hc f _ _ h h1

/-- what a quiet operation must show: of the one class, where it is done ahead of s; else of both -/
def Yq (P : Program) (ops : Array Oper) (Ds Dw : WP → Prop) (anc : Bool) (o : Oper) (v : Value) (a : Act) : Prop := if anc = true then myield P ops Ds o v a else myield P ops Dw o v a

theorem mAny2_first (hsub : ∀ D, Ds D → Dw D) {i : Nat} {oi : Oper} {v : Value} {fu : Nat} (hi : ops[i]? = some oi) (his : i ≠ s) (hsel : ∀ (j : Nat) (o : Oper) cs b, ops[j]? = some o → o.op ≠ .select cs b) :
    ∀ (f : Nat) (listed : Array Bool) (a : Act) (D : WP), D2 s Ds Dw listed D → Closed .any ops listed →
      (∀ j oj, ops[j]? = some oj → j ≠ i → listed.getD j true = false → (∀ e ∈ oj.after, Region.binds .any e = true → e.on ≠ i) → oi.apart ops oj = true) →
      i ∈ Region.ready .any ops listed → Yq P ops Ds Dw (ancB ops fu s i) oi v a →
      mAny2 P .any ops s Ds Dw Q f (listed.setIfInBounds i true) (a.put oi.dst v) D → mAny2 P .any ops s Ds Dw Q (f + 1) listed a D := by
  have hmy : ∀ (listed : Array Bool) (a : Act), Closed .any ops listed → i ∈ Region.ready .any ops listed → Yq P ops Ds Dw (ancB ops fu s i) oi v a → myield P ops (D2 s Ds Dw (listed.setIfInBounds i true)) oi v a := by
    intro listed a hc hr hy
    have hun := (mem_ready.1 hr).1
    have hset : (listed.setIfInBounds i true).getD s false = listed.getD s false := getD_set_ne false his
    unfold Yq at hy
    by_cases ha : ancB ops fu s i = true
    · rw [if_pos ha] at hy
      have hs : listed.getD s false ≠ true := fun hs => by
        have := anc_listed hc fu s i ha hs
        rw [getD_both hun] at this; cases this
      have : D2 s Ds Dw (listed.setIfInBounds i true) = Ds := by funext D; unfold D2; rw [hset, if_neg hs]
      rw [this]; exact hy
    · rw [if_neg ha] at hy
      have hle : ∀ D, D2 s Ds Dw (listed.setIfInBounds i true) D → Dw D := fun D h => by
        unfold D2 at h
        split at h
        · exact h
        · exact hsub D h
      rcases hy with ⟨h1, h2⟩ | hy
      · exact .inl ⟨h1, fun D hD => h2 D (hle D hD)⟩
      · exact .inr hy
  have hsame : ∀ a a', Yq P ops Ds Dw (ancB ops fu s i) oi v a → execOp a'.eval oi = execOp a.eval oi → Region.wanted oi (yielded ops a'.tmps) = Region.wanted oi (yielded ops a.tmps) → Yq P ops Ds Dw (ancB ops fu s i) oi v a' := by
    intro a a' h he hw
    unfold Yq at *
    split
    · rename_i q; rw [if_pos q] at h; exact h.same he hw
    · rename_i q; rw [if_neg q] at h; exact h.same he hw
  have hset : ∀ (listed : Array Bool) D, D2 s Ds Dw listed D → D2 s Ds Dw (listed.setIfInBounds i true) D := fun listed D h => by
    unfold D2 at *
    rw [getD_set_ne false his]; exact h
  intro f
  induction f with
  | zero =>
    intro listed a D hD hc _ hr hy G
    refine ⟨fun h => (by rw [h] at hr; cases hr), fun j hj => ?_⟩
    by_cases hji : j = i
    · subst hji; exact (hmy listed a hc hr hy).mOp hi (hset _ _ hD) G
    · have := ready_mono hj hji
      rw [G.1] at this
      cases this
  | succ f ih =>
    intro listed a D hD hc hfree hr hy G
    refine ⟨fun h => (by rw [h] at hr; cases hr), fun j hj => ?_⟩
    by_cases hji : j = i
    · subst hji; exact (hmy listed a hc hr hy).mOp hi (hset _ _ hD) G
    · have h1 := G.2 j (ready_mono hj hji)
      obtain ⟨hjun, oj, hoj, hall⟩ := mem_ready.1 hj
      have hnot : ∀ e ∈ oj.after, Region.binds .any e = true → e.on ≠ i := fun e he hb heq => by
        have h1 := hall e he hb
        rw [heq, getD_both (mem_ready.1 hr).1] at h1
        cases h1
      have hcl : D2 s Ds Dw ((listed.setIfInBounds i true).setIfInBounds j true) = D2 s Ds Dw (listed.setIfInBounds j true) := by
        funext E
        unfold D2
        rw [Array.setIfInBounds_comm _ _ (Ne.symm hji), getD_set_ne false his]
      rw [hcl] at h1
      have hDj : D2 s Ds Dw (listed.setIfInBounds j true) D := by
        unfold D2 at *
        by_cases hjs : j = s
        · subst hjs
          rw [if_pos (getD_set_self hjun)]
          rw [if_neg (by rw [getD_both hjun]; simp)] at hD
          exact hsub D hD
        · rw [getD_set_ne false hjs]; exact hD
      refine mOp_putY hoj (hfree j oj hoj hji hjun hnot) (fun cs b => hsel i oi cs b hi) (fun cs b => hsel j oj cs b hoj) hsame hy hDj (fun a' D' hy' hD' hk => ?_) h1
      have hfree' : ∀ k ok, ops[k]? = some ok → k ≠ i → (listed.setIfInBounds j true).getD k true = false →
          (∀ e ∈ ok.after, Region.binds .any e = true → e.on ≠ i) → oi.apart ops ok = true := fun k ok hk hki hun hno => by
        refine hfree k ok hk hki ?_ hno
        by_cases hjk : j = k
        · subst hjk; exact hjun
        · rw [getD_set_ne true hjk] at hun; exact hun
      refine ih (listed.setIfInBounds j true) a' D' hD' (hc.set hj) hfree' (ready_mono hr (Ne.symm hji)) hy' ?_
      rw [Array.setIfInBounds_comm _ _ hji]
      exact hk
end

section
variable {P : Program} {w0 : World} {n : NT} {L : Slots} {H H' : List Atom} {Q : Exit → Act → World → Prop} {K : Act → World → Prop} {o : Oper} {d : Nat}

/-- as TriM; 'Hs' stays till operation s, 'Hk' also behind it -/
def TriN (P : Program) (w0 : World) (ops : Array Oper) (Q : Exit → Act → World → Prop) (s : Nat) (Hk Hs : List Atom) (m : Nat) (ls : Array Bool) (n : NT) (L : Slots) (F : List Atom) : Prop :=
  (∃ X, Hs = Hk ++ X) → ∀ a, Has a n L → mAny2 P .any ops s (Dcl w0 Hs) (Dcl w0 Hk) Q m ls a (fun w => St w0 w (Hs ++ F))
def MixN (P : Program) (w0 : World) (ops : Array Oper) (Q : Exit → Act → World → Prop) (s : Nat) (Hk Hs : List Atom) (m : Nat) (ls : Array Bool) : Act → World → Prop :=
  fun a w => ∃ D', Dcl w0 Hs D' ∧ D' w ∧ mAny2 P .any ops s (Dcl w0 Hs) (Dcl w0 Hk) Q m ls a D'

theorem Tri.mixN (s : Nat) (Hk Hs : List Atom) {id : Nat} {l : List Oper} {F : List Atom} [hm : TMixed P] (hp : ∃ X, Hs = Hk ++ X) (p : Pulls H Hs F) (h : TriN P w0 l.toArray Q s Hk Hs l.length (Array.replicate l.length false) n L F) : Tri w0 ((Code.region id l.toArray true).wp P Q) n L H := fun a w ha hw => by
  refine wp_region_any hm.ok ?_
  have := any_of_m2 _ _ _ _ { w with drawn := w.drawn + 1 } ((hw.pulls p).drawn (w.drawn + 1)) (h hp a ha)
  simp only [List.size_toArray]; exact this
theorem TriN.back {ops : Array Oper} {s : Nat} {Hk Hs F : List Atom} {m : Nat} {ls : Array Bool} (hp : ∃ X, Hs = Hk ++ X) (p : Pulls H Hs F) (h : TriN P w0 ops Q s Hk Hs m ls n L F) : Tri w0 (MixN P w0 ops Q s Hk Hs m ls) n L H := fun a w ha hw =>
  ⟨_, ⟨F, rfl⟩, hw.pulls p, h hp a ha⟩
theorem Dcl.less {Hk Hs : List Atom} (hp : ∃ X, Hs = Hk ++ X) (D : WP) (h : Dcl w0 Hs D) : Dcl w0 Hk D := by
  obtain ⟨X, rfl⟩ := hp
  obtain ⟨F, rfl⟩ := h
  exact ⟨X ++ F, by rw [List.append_assoc]⟩
/-- an operation that is ahead of s, and so may read all that stays till there -/
def takeN (ops : Array Oper) (ls : Array Bool) (s i : Nat) : Bool := takeB ops ls i && closedB ops ls && !(ls.getD s false) && ancB ops ops.size s i && !(i == s)
/-- an operation that may come behind s -/
def takeP (ops : Array Oper) (ls : Array Bool) (s i : Nat) : Bool := takeB ops ls i && closedB ops ls && !(ls.getD s false) && !(i == s)
theorem TriN.take {ops : Array Oper} {s : Nat} {Hk Hs F : List Atom} {m : Nat} {ls : Array Bool} (i : Nat) {v : Value} (ho : ops[i]? = some o) (hB : takeN ops ls s i = true) (hd : o.dst = some d) (hn : Nat.blt d n = true)
    (hy : ∀ a, Has a n L → myield P ops (Dcl w0 Hs) o v a) (k : TriN P w0 ops Q s Hk Hs m (ls.setIfInBounds i true) n ((d, v) :: L) F) : TriN P w0 ops Q s Hk Hs (m + 1) ls n L F := fun hp a ha => by
  simp only [takeN, takeB, Bool.and_eq_true, Bool.not_eq_true', beq_eq_false_iff_ne] at hB
  obtain ⟨⟨⟨⟨⟨⟨b1, b2⟩, b3⟩, b4⟩, b5⟩, b6⟩, b7⟩ := hB
  refine mAny2_first (v := v) (fu := ops.size) (Dcl.less hp) ho b7 (Region.noSelect_spec b1) m ls a _ ?_ (closedB_spec b4) (Region.free_spec ho b3) (by simpa using b2) ?_ ?_
  · unfold D2; rw [if_neg (by rw [b5]; simp)]; exact ⟨F, rfl⟩
  · unfold Yq; rw [if_pos b6]; exact hy a ha
  · rw [hd]; exact k hp _ (ha.put hn v)
theorem TriN.takeP {ops : Array Oper} {s : Nat} {Hk Hs F : List Atom} {m : Nat} {ls : Array Bool} (i : Nat) {v : Value} (ho : ops[i]? = some o) (hB : Gv.takeP ops ls s i = true) (hd : o.dst = some d) (hn : Nat.blt d n = true)
    (hy : ∀ a, Has a n L → myield P ops (Dcl w0 Hk) o v a) (k : TriN P w0 ops Q s Hk Hs m (ls.setIfInBounds i true) n ((d, v) :: L) F) : TriN P w0 ops Q s Hk Hs (m + 1) ls n L F := fun hp a ha => by
  simp only [Gv.takeP, takeB, Bool.and_eq_true, Bool.not_eq_true', beq_eq_false_iff_ne] at hB
  obtain ⟨⟨⟨⟨⟨b1, b2⟩, b3⟩, b4⟩, b5⟩, b7⟩ := hB
  refine mAny2_first (v := v) (fu := 0) (Dcl.less hp) ho b7 (Region.noSelect_spec b1) m ls a _ ?_ (closedB_spec b4) (Region.free_spec ho b3) (by simpa using b2) ?_ ?_
  · unfold D2; rw [if_neg (by rw [b5]; simp)]; exact ⟨F, rfl⟩
  · unfold Yq; rw [if_neg (by simp [ancB])]; exact hy a ha
  · rw [hd]; exact k hp _ (ha.put hn v)
theorem TriN.q {ops : Array Oper} {s : Nat} {Hk Hs F : List Atom} {m : Nat} {ls : Array Bool} (i : Nat) {v : Value} (ho : ops.toList[i]? = some o) (hg : o.guard = none) (hB : takeN ops ls s i = true) (hd : o.dst = some d) (hn : Nat.blt d n = true)
    (h : ∀ (F : List Atom) (K : Act → World → Prop), Tri w0 K n ((d, v) :: L) (Hs ++ F) → Tri w0 (OpG P o K (fun _ _ _ => False)) n L (Hs ++ F)) (k : TriN P w0 ops Q s Hk Hs m (ls.setIfInBounds i true) n ((d, v) :: L) F) : TriN P w0 ops Q s Hk Hs (m + 1) ls n L F :=
  TriN.take i (by rw [← Array.getElem?_toList]; exact ho) hB hd hn (myield_of (fun a _ => by simp [Region.wanted, hg]) hd hn h) k
theorem TriN.p {ops : Array Oper} {s : Nat} {Hk Hs F : List Atom} {m : Nat} {ls : Array Bool} (i : Nat) {v : Value} (ho : ops.toList[i]? = some o) (hg : o.guard = none) (hB : Gv.takeP ops ls s i = true) (hd : o.dst = some d) (hn : Nat.blt d n = true)
    (h : ∀ (F : List Atom) (K : Act → World → Prop), Tri w0 K n ((d, v) :: L) (Hk ++ F) → Tri w0 (OpG P o K (fun _ _ _ => False)) n L (Hk ++ F)) (k : TriN P w0 ops Q s Hk Hs m (ls.setIfInBounds i true) n ((d, v) :: L) F) : TriN P w0 ops Q s Hk Hs (m + 1) ls n L F :=
  TriN.takeP i (by rw [← Array.getElem?_toList]; exact ho) hB hd hn (myield_of (fun a _ => by simp [Region.wanted, hg]) hd hn h) k
theorem mOp_of2 {DD : WP → Prop} {K' : Act → WP → Prop} {ops : Array Oper} {H : List Atom} {i : Nat} (ho : ops[i]? = some o) {a : Act} (hw : Region.wanted o (yielded ops a.tmps) = true) (ha : Has a n L)
    (h : Tri w0 (OpG P o (fun a w => ∃ D', DD D' ∧ D' w ∧ K' a D') (fun _ _ _ => False)) n L H) : mOp P ops DD i K' a (fun w => St w0 w H) := by
  unfold mOp
  simp only [ho]
  rw [if_pos hw]
  intro w hD
  rcases h a w ha hD with g | ⟨_, _, _, g⟩
  · exact g
  · exact g.elim
/-- the only operation that may come, ahead of s -/
theorem TriN.a {ops : Array Oper} {s : Nat} {Hk Hs F : List Atom} {m : Nat} {ls : Array Bool} (i : Nat) (ho : ops.toList[i]? = some o) (hg : o.guard = none) (hr : decide (Region.ready .any ops ls = [i]) && (!(i == s) && !(ls.getD s false)) = true)
    (h : Tri w0 (OpG P o (MixN P w0 ops Q s Hk Hs m (ls.setIfInBounds i true)) (fun _ _ _ => False)) n L (Hs ++ F)) : TriN P w0 ops Q s Hk Hs (m + 1) ls n L F := fun hp a ha => by
  simp only [Bool.and_eq_true, decide_eq_true_eq, Bool.not_eq_true', beq_eq_false_iff_ne] at hr
  obtain ⟨hr, his, hls⟩ := hr
  refine ⟨fun h0 => (by rw [h0] at hr; cases hr), fun j hj => ?_⟩
  rw [hr] at hj
  have : j = i := by simpa using hj
  subst this
  have hcl : D2 s (Dcl w0 Hs) (Dcl w0 Hk) (ls.setIfInBounds j true) = Dcl w0 Hs := by
    funext D; unfold D2; rw [getD_set_ne false his, if_neg (by rw [hls]; simp)]
  rw [hcl]
  exact mOp_of2 (by rw [← Array.getElem?_toList]; exact ho) (by simp [Region.wanted, hg]) ha h
/-- two or three that may come, ahead of s -/
theorem TriN.one {ops : Array Oper} {s : Nat} {Hk Hs F : List Atom} {m : Nat} {ls : Array Bool} {i : Nat} (ho : ops.toList[i]? = some o) (hg : o.guard = none) (hb : (!(i == s) && !(ls.getD s false)) = true)
    (h : Tri w0 (OpG P o (MixN P w0 ops Q s Hk Hs m (ls.setIfInBounds i true)) (fun _ _ _ => False)) n L (Hs ++ F)) (hp : ∃ X, Hs = Hk ++ X) (a : Act) (ha : Has a n L) :
    mOp P ops (D2 s (Dcl w0 Hs) (Dcl w0 Hk) (ls.setIfInBounds i true)) i (mAny2 P .any ops s (Dcl w0 Hs) (Dcl w0 Hk) Q m (ls.setIfInBounds i true)) a (fun w => St w0 w (Hs ++ F)) := by
  simp only [Bool.and_eq_true, Bool.not_eq_true', beq_eq_false_iff_ne] at hb
  obtain ⟨his, hls⟩ := hb
  have hcl : D2 s (Dcl w0 Hs) (Dcl w0 Hk) (ls.setIfInBounds i true) = Dcl w0 Hs := by
    funext D; unfold D2; rw [getD_set_ne false his, if_neg (by rw [hls]; simp)]
  rw [hcl]
  exact mOp_of2 (by rw [← Array.getElem?_toList]; exact ho) (by simp [Region.wanted, hg]) ha h
theorem TriN.a2 {ops : Array Oper} {s : Nat} {Hk Hs F : List Atom} {m : Nat} {ls : Array Bool} (i j : Nat) {oi oj : Oper} (hoi : ops.toList[i]? = some oi) (hoj : ops.toList[j]? = some oj) (hgi : oi.guard = none) (hgj : oj.guard = none) (hr : (decide (Region.ready .any ops ls = [i, j]) && ((!(i == s) && !(ls.getD s false)) && (!(j == s) && !(ls.getD s false)))) = true)
    (hi : Tri w0 (OpG P oi (MixN P w0 ops Q s Hk Hs m (ls.setIfInBounds i true)) (fun _ _ _ => False)) n L (Hs ++ F))
    (hj : Tri w0 (OpG P oj (MixN P w0 ops Q s Hk Hs m (ls.setIfInBounds j true)) (fun _ _ _ => False)) n L (Hs ++ F)) : TriN P w0 ops Q s Hk Hs (m + 1) ls n L F := fun hp a ha => by
  rw [Bool.and_eq_true, Bool.and_eq_true, decide_eq_true_eq] at hr
  obtain ⟨hr, b1, b2⟩ := hr
  refine ⟨fun h0 => (by rw [h0] at hr; cases hr), fun k hk => ?_⟩
  rw [hr] at hk
  simp at hk
  rcases hk with rfl | rfl
  · exact TriN.one hoi hgi b1 hi hp a ha
  · exact TriN.one hoj hgj b2 hj hp a ha
theorem TriN.a3 {ops : Array Oper} {s : Nat} {Hk Hs F : List Atom} {m : Nat} {ls : Array Bool} (i j l : Nat) {oi oj ol : Oper} (hoi : ops.toList[i]? = some oi) (hoj : ops.toList[j]? = some oj) (hok : ops.toList[l]? = some ol) (hgi : oi.guard = none) (hgj : oj.guard = none) (hgk : ol.guard = none) (hr : (decide (Region.ready .any ops ls = [i, j, l]) && ((!(i == s) && !(ls.getD s false)) && ((!(j == s) && !(ls.getD s false)) && (!(l == s) && !(ls.getD s false))))) = true)
    (hi : Tri w0 (OpG P oi (MixN P w0 ops Q s Hk Hs m (ls.setIfInBounds i true)) (fun _ _ _ => False)) n L (Hs ++ F))
    (hj : Tri w0 (OpG P oj (MixN P w0 ops Q s Hk Hs m (ls.setIfInBounds j true)) (fun _ _ _ => False)) n L (Hs ++ F))
    (hk : Tri w0 (OpG P ol (MixN P w0 ops Q s Hk Hs m (ls.setIfInBounds l true)) (fun _ _ _ => False)) n L (Hs ++ F)) : TriN P w0 ops Q s Hk Hs (m + 1) ls n L F := fun hp a ha => by
  rw [Bool.and_eq_true, decide_eq_true_eq] at hr
  obtain ⟨hr, hb⟩ := hr
  rw [Bool.and_eq_true] at hb
  obtain ⟨b1, hb⟩ := hb
  rw [Bool.and_eq_true] at hb
  obtain ⟨b2, b3⟩ := hb
  refine ⟨fun h0 => (by rw [h0] at hr; cases hr), fun q hq => ?_⟩
  rw [hr] at hq
  simp at hq
  rcases hq with rfl | rfl | rfl
  · exact TriN.one hoi hgi b1 hi hp a ha
  · exact TriN.one hoj hgj b2 hj hp a ha
  · exact TriN.one hok hgk b3 hk hp a ha
/-- operation s, the only one that may come -/
theorem TriN.less {ops : Array Oper} {s : Nat} {Hk Hs F : List Atom} {m : Nat} {ls : Array Bool} (ho : ops.toList[s]? = some o) (hg : o.guard = none) (hr : decide (Region.ready .any ops ls = [s]) = true)
    (h : Tri w0 (OpG P o (MixK P w0 ops Q Hk m (ls.setIfInBounds s true)) (fun _ _ _ => False)) n L (Hs ++ F)) : TriN P w0 ops Q s Hk Hs (m + 1) ls n L F := fun hp a ha => by
  have hr' := of_decide_eq_true hr
  refine ⟨fun h0 => (by rw [h0] at hr'; cases hr'), fun j hj => ?_⟩
  have hj0 := hj
  rw [hr'] at hj
  have : j = s := by simpa using hj
  subst this
  have hset : (ls.setIfInBounds j true).getD j false = true := getD_set_self (mem_ready.1 hj0).1
  have hcl : D2 j (Dcl w0 Hs) (Dcl w0 Hk) (ls.setIfInBounds j true) = Dcl w0 Hk := by
    funext D; unfold D2; rw [if_pos hset]
  rw [hcl]
  refine mOp_of2 (by rw [← Array.getElem?_toList]; exact ho) (by simp [Region.wanted, hg]) ha (fun a' w' ha' hw' => ?_)
  rcases h a' w' ha' hw' with g | ⟨_, _, _, g⟩
  · refine .inl (Oper.wp_mono ?_ g)
    rintro a'' w'' ⟨D', e1, e2, e3⟩
    exact ⟨D', e1, e2, m2_of_m _ _ _ _ hset e3⟩
  · exact g.elim
end
end Go.Gv
end
section
/- tree: give, may, child: the walk. -/
namespace Go.Proofs.Ytckdlfbbkemklaa
open Go Go.RowKit Go.Gv
set_option linter.unusedVariables false
set_option linter.unusedSimpArgs false

theorem z513g : (Value.int .i64 0 :: List.replicate 512 (Value.bool false)).length = 513 := by rw [List.length_cons, List.length_replicate]
set_option maxHeartbeats 8000000 in
theorem view_give (pv d : Nat) (v : VS) (a : Int) (hv : v.ok) :
    Gv.Spec Try.prog 112 #[.pointer (some ⟨pv, 0, none⟩), .int .i64 a] [blk pv 194 (viewL d v)]
    (fun r H' => r = .int .i64 ((giN v a).2 : Int) ∧ H' = [blk pv 194 (viewL d (giN v a).1)]) := by
  refine Gv.Spec.of (fun w h0 hw => ?_)
  refine Calls.enter Try.func112 rfl rfl rfl hw ?_
  simp only [argSlots]
  (try dsimp only [List.cons_append, List.nil_append])
  have hg := bm_Give v.m a 1 hv.m
  obtain ⟨T, hT⟩ : ∃ T, T = giveM v.m a 1 := ⟨_, rfl⟩
  have hTl : T.1.u.length = 512 := by rw [hT]; exact giveM_length _ _ _ hv.m
  rw [← hT] at hg
  (refine Tri.seq (Tri.region ?_); apply Tri.op; rfl; apply o_assign; rfl; rfl; refine Tri.nil (Tri.thenN (Tri.seq (Tri.region ?_))); apply Tri.op; rfl; apply o_move; rfl; rfl; apply Tri.op; rfl; apply o_nilCheck; rfl; rfl; apply Tri.op; rfl; apply o_fieldAddr; rfl; rfl; apply Tri.op; rfl)
  (apply o_loadAgg; (case hx => rfl); (case p => exact (by (with_reducible repeat constructor))); (case hv => exact viewL_m hv); (case hl => exact bmL_len hv.m); (case hn => rfl))
  (apply Tri.op; rfl; apply o_move; rfl; rfl; apply Tri.op; rfl)
  (apply o_callV (hs := hg); (case hargs => (repeat first | exact evs.nil | (apply evs.cons; case a => rfl))); (case hpre => exact fun _ _ => trivial); (case hn => rfl))
  (apply Tri.op; rfl; apply o_move; rfl; rfl; apply Tri.op; rfl; apply o_extract; rfl; rfl; rfl; apply Tri.op; rfl; apply o_extract; rfl; rfl; rfl; apply Tri.op; rfl)
  (apply o_alloc; (case hn => rfl); intro b5)
  (apply Tri.op; rfl)
  (apply o_storeAll (ys := bmL T.1); (case hx => rfl); (case hy => rfl); (case p => (with_reducible repeat constructor)); (case hl => exact bmL_len hTl); (case hc => exact z513g); (case h1 => exact bmL_one _))
  (apply Tri.op; rfl; apply o_assign; rfl; rfl; refine Tri.nil (Tri.thenN (Tri.seq (Tri.seq (Tri.region ?_)))); apply Tri.op; rfl; apply o_move; rfl; rfl; apply Tri.op; rfl; apply o_eql; rfl; rfl; rfl; refine Tri.nil (Tri.thenN ?_))
  by_cases hz : T.2 = 0
  · have e : giN v a = (⟨v.S, v.gen, T.1, v.old⟩, 0) := by rw [giN, ← hT, if_pos hz]
    rw [e]
    ((with_reducible apply Tri.setb 17 (true)); (case h => rfl); (case hi => (rw [hz]; rfl)))
    (apply Tri.condT; rfl; rfl; refine Tri.region ?_; apply Tri.op; rfl; apply o_move; rfl; rfl; apply Tri.op; rfl)
    (apply o_loadAll (cs := bmL T.1); (case hx => rfl); (case p => exact (by (with_reducible repeat constructor))); (case hl => exact bmL_len hTl); (case hn => rfl))
    (apply Tri.op; rfl; apply o_nilCheck; rfl; rfl; apply Tri.op; rfl; apply o_fieldAddr; rfl; rfl; apply Tri.op; rfl)
    (apply o_storeAgg (ys := bmL T.1); (case hx => rfl); (case hy => rfl); (case hl => exact bmL_len hTl); (case h1 => exact bmL_one _); (case p => (with_reducible repeat constructor)); (case hi => (rw [viewL_len hv]; omega)))
    ((with_reducible apply Tri.eqA (A := blk pv _ _) (B := blk pv 194 (viewL d ⟨v.S, v.gen, T.1, v.old⟩))); (case p => (with_reducible repeat constructor)); (case e => (rw [viewL_set hv T.1 v.S])))
    (refine Tri.nil (Tri.thenN (Tri.seq (Tri.region ?_))); apply Tri.op; rfl; apply o_move; rfl; rfl; apply Tri.op; rfl; apply o_assign; rfl; rfl; refine Tri.nil (Tri.thenN (Tri.ret ?_)))
    (apply Tri.fin; (case hr => rfl); (case h => exact ResL.cons (Res1.tmp rfl) (ResL.nil)); (apply fin_R (Hn := [blk pv 194 (viewL d ⟨v.S, v.gen, T.1, v.old⟩)])); (case p => exact (by (repeat first | with_reducible constructor | constructor))); exact ⟨by rw [hz]; rfl, rfl⟩)
  · have e : giN v a = (v, T.2) := by rw [giN, ← hT, if_neg hz]
    rw [e]
    ((with_reducible apply Tri.setb 17 (false)); (case h => rfl); (case hi => exact decide_eq_false (by omega)))
    (apply Tri.condF; rfl; rfl; refine Tri.skip (Tri.thenN (Tri.seq (Tri.region ?_))); apply Tri.op; rfl; apply o_move; rfl; rfl; apply Tri.op; rfl; apply o_assign; rfl; rfl; refine Tri.nil (Tri.thenN (Tri.ret ?_)))
    (apply Tri.fin; (case hr => rfl); (case h => exact ResL.cons (Res1.tmp rfl) (ResL.nil)); (apply fin_R (Hn := [blk pv 194 (viewL d v)])); (case p => exact (by (repeat first | with_reducible constructor | constructor))); exact ⟨rfl, rfl⟩)
set_option maxHeartbeats 4000000 in
theorem view_may (pv : Nat) (a : Int) (h : Nat) (hh : h ≤ 5) : SpecR Try.prog 73 #[.pointer (some ⟨pv, 0, none⟩), rootV a (h : Int)] (fun _ => True) (fun r H' => r = .int .i64 0 ∧ H' = []) := by
  refine SpecR.of (fun w _ => ?_)
  refine Calls.enter Try.func73 rfl rfl rfl (St.rebase w) ?_
  simp only [argSlots]
  (refine Tri.seq (Tri.region ?_); apply Tri.op; rfl)
  (first | (apply o_boxA; (case hx => rfl); (case hn => rfl); intro b3) | (apply o_box1; (case hx => rfl); (case h1 => rfl); (case hn => rfl); intro b3))
  (apply Tri.op; rfl; apply o_assign; rfl; rfl; refine Tri.nil (Tri.thenN (Tri.seq (Tri.seq (Tri.region ?_)))); apply Tri.op; rfl; apply o_move; rfl; rfl; apply Tri.op; rfl; apply o_eqlN; rfl; rfl; rfl; apply Tri.op; rfl; apply o_move; rfl; rfl)
  ((with_reducible apply Tri.setb 7 (false)); (case h => rfl); (case hi => rfl))
  (apply Tri.opYes; rfl; rfl; rfl; apply o_fieldAddr; rfl; rfl; apply Tri.opYes; rfl; rfl; rfl; apply o_load; rfl; (with_reducible repeat constructor); rfl; rfl; apply Tri.opYes; rfl; rfl; rfl; apply o_lss; rfl; rfl; rfl; apply Tri.op; rfl; apply o_pickF; (iterate 4 rfl); apply Tri.op; rfl; apply o_move; rfl; rfl)
  ((with_reducible apply Tri.setb 12 (false)); (case h => rfl); (case hi => exact decide_eq_false (by omega)))
  (apply Tri.opYes; rfl; rfl; rfl; apply o_fieldAddr; rfl; rfl; apply Tri.opYes; rfl; rfl; rfl; apply o_load; rfl; (with_reducible repeat constructor); rfl; rfl; apply Tri.opYes; rfl; rfl; rfl; apply o_gtr; rfl; rfl; rfl; apply Tri.op; rfl; apply o_pickF; (iterate 4 rfl); refine Tri.nil (Tri.thenN ?_))
  ((with_reducible apply Tri.setb 16 (false)); (case h => rfl); (case hi => exact decide_eq_false (by omega)))
  (apply Tri.condF; rfl; rfl; refine Tri.skip (Tri.thenN (Tri.seq (Tri.region ?_))); apply Tri.op; rfl; apply o_assign; rfl; rfl; refine Tri.nil (Tri.thenN (Tri.ret ?_)))
  (apply Tri.fin; (case hr => rfl); (case h => (repeat (first | exact ResL.nil | (apply ResL.cons; (case a => (first | exact Res1.tmp rfl | (apply Res1.cell; rfl; (with_reducible repeat constructor); rfl) | (apply Res1.agg; rfl; (with_reducible repeat constructor); rfl; rfl))))))); (apply fin_R (Hn := [])); (case p => (repeat first | with_reducible constructor | constructor)))
  exact ⟨rfl, rfl⟩
set_option maxHeartbeats 8000000 in
theorem tree_child (leaf : Bool) (ev kv dv : Value) (ks : List KEY) (k : KEY) (hb : ks.length ≤ 1000000) : SpecR Try.prog 105 #[ndW leaf ev kv dv, .agg (keyL k).toArray] (fun w => RdW w kv ks.length (KL ks)) (fun r H' => r = .int .i64 (childN ks k : Int) ∧ H' = []) := by
  refine SpecR.of (fun w hr => ?_)
  obtain ⟨Ak, ck, rfl, _⟩ := id hr
  refine Calls.enter Try.func105 rfl rfl rfl (St.rebase w) ?_
  simp only [argSlots]
  (refine Tri.seq (Tri.region ?_); apply Tri.op; rfl)
  (first | (apply o_boxA; (case hx => rfl); (case hn => rfl); intro b2) | (apply o_box1; (case hx => rfl); (case h1 => rfl); (case hn => rfl); intro b2))
  (apply Tri.op; rfl)
  (first | (apply o_boxA; (case hx => rfl); (case hn => rfl); intro b3) | (apply o_box1; (case hx => rfl); (case h1 => rfl); (case hn => rfl); intro b3))
  (apply Tri.op; rfl; apply o_assign; rfl; rfl; refine Tri.nil (Tri.thenN (Tri.seq (Tri.region ?_))); apply Tri.op; rfl; apply o_assign; rfl; rfl; refine Tri.nil (Tri.thenN (Tri.seq (Tri.block ?_))))
  (apply Tri.loop (α := Σ' (i : Nat) (f : Nat), ks.length ≤ f + i ∧ i ≤ ks.length ∧ childGo ks k f i = childN ks k) (m := fun x => ks.length - x.1) (Lx := fun x => [(2, .pointer (some ⟨b2, 0, none⟩)), (3, .pointer (some ⟨b3, 0, none⟩)), (5, .int .i64 (x.1 : Int))]) (Hx := fun x => [blk b2 33 (ndLL leaf ev (.slice Ak ks.length ck) dv), blk b3 98 (keyL k), Ex (hp w)]) (x0 := ⟨0, ks.length, Nat.le_refl _, Nat.zero_le _, rfl⟩); (case hL => ((try dsimp only); (repeat (first | exact trivial | refine And.intro (by rfl) ?_)))); (case hH => ((try dsimp only); apply St.all; (repeat first | with_reducible constructor | constructor)))); (rintro ⟨i, f, hf, hk, hi⟩ mx hmx; (try dsimp only at hmx ⊢))
  (refine Tri.seq (Tri.seq ?_))
  ((first | with_reducible apply Tri.mix [blk b2 33 (ndLL leaf ev (.slice Ak ks.length ck) dv), blk b3 98 (keyL k), Ex (hp w)] | (apply TriR.mix [blk b2 33 (ndLL leaf ev (.slice Ak ks.length ck) dv), blk b3 98 (keyL k), Ex (hp w)]; (case hnd => rfl))); (case p => (repeat first | with_reducible constructor | constructor)); (dsimp only [List.length]))
  ((first | (apply TriM.q 0; rfl; rfl) | (apply TriM.qYes 0; rfl; rfl; rfl; with_reducible rfl)); kernel_rfl; rfl; rfl; (intro F K hK; apply o_move; rfl; rfl; exact hK); (first | (apply TriM.q 1; rfl; rfl) | (apply TriM.qYes 1; rfl; rfl; rfl; with_reducible rfl)); kernel_rfl; rfl; rfl; (intro F K hK; apply o_add64; rfl; rfl; rfl; (omega); exact hK); (first | (apply TriM.q 2; rfl; rfl) | (apply TriM.qYes 2; rfl; rfl; rfl; with_reducible rfl)); kernel_rfl; rfl; rfl; (intro F K hK; apply o_fieldAddr; rfl; rfl; exact hK); (first | (apply TriM.q 3; rfl; rfl) | (apply TriM.qYes 3; rfl; rfl; rfl; with_reducible rfl)); kernel_rfl; rfl; rfl; (intro F K hK; (try dsimp only [List.cons_append, List.nil_append]); apply o_load; rfl; (with_reducible repeat constructor); rfl; rfl; exact hK); (first | (apply TriM.q 4; rfl; rfl) | (apply TriM.qYes 4; rfl; rfl; rfl; with_reducible rfl)); kernel_rfl; rfl; rfl; (intro F K hK; apply o_len; rfl; rfl; exact hK); (first | (apply TriM.q 5; rfl; rfl) | (apply TriM.qYes 5; rfl; rfl; rfl; with_reducible rfl)); kernel_rfl; rfl; rfl; (intro F K hK; apply o_lss; rfl; rfl; rfl; exact hK); (first | (apply TriM.q 6; rfl; rfl) | (apply TriM.qYes 6; rfl; rfl; rfl; with_reducible rfl)); kernel_rfl; rfl; rfl; (intro F K hK; apply o_move; rfl; rfl; exact hK))
  by_cases c : i + 1 < ks.length
  · obtain ⟨g, rfl⟩ : ∃ g, f = g + 1 := ⟨f - 1, by omega⟩
    have hKl := KL_length ks
    ((with_reducible apply TriM.setb 12 (true)); (case h => rfl); (case hi => exact decide_eq_true (by omega)))
    ((first | (apply TriM.q 7; (case ho => rfl); (case hg => rfl)) | (apply TriM.qYes 7; (case ho => rfl); (case hg => rfl); (case hyl => rfl); (case hb => with_reducible rfl))); (case hB => kernel_rfl); (case hd => rfl); (case hn => rfl); (case h => (intro F K hK; (try dsimp only [List.cons_append, List.nil_append]); (apply o_loadAll (cs := keyL k); (case hx => rfl); (case p => exact (by (with_reducible repeat constructor))); (case hl => rfl); (case hn => rfl)); exact hK)))
    ((first | (apply TriM.q 8; rfl; rfl) | (apply TriM.qYes 8; rfl; rfl; rfl; with_reducible rfl)); kernel_rfl; rfl; rfl; (intro F K hK; apply o_fieldAddr; rfl; rfl; exact hK); (first | (apply TriM.q 9; rfl; rfl) | (apply TriM.qYes 9; rfl; rfl; rfl; with_reducible rfl)); kernel_rfl; rfl; rfl; (intro F K hK; (try dsimp only [List.cons_append, List.nil_append]); apply o_load; rfl; (with_reducible repeat constructor); rfl; rfl; exact hK); (first | (apply TriM.q 10; rfl; rfl) | (apply TriM.qYes 10; rfl; rfl; rfl; with_reducible rfl)); kernel_rfl; rfl; rfl; (intro F K hK; apply o_move; rfl; rfl; exact hK); (first | (apply TriM.q 11; rfl; rfl) | (apply TriM.qYes 11; rfl; rfl; rfl; with_reducible rfl)); kernel_rfl; rfl; rfl; (intro F K hK; apply o_add64; rfl; rfl; rfl; (omega); exact hK))
    ((first | (apply TriM.q 12; (case ho => rfl); (case hg => rfl)) | (apply TriM.qYes 12; (case ho => rfl); (case hg => rfl); (case hyl => rfl); (case hb => with_reducible rfl))); (case hB => kernel_rfl); (case hd => rfl); (case hn => rfl); (case h => (intro F K hK; (try dsimp only [List.cons_append, List.nil_append]); (apply o_ixW (j := i + 1); (case hx => rfl); (case hy => rfl); (case hr => exact rdw_ex (by (with_reducible repeat constructor)) hr); (case hj => rfl); (case hlt => exact c); (case hl => omega); (case hn => rfl)); exact hK)))
    ((first | (apply TriM.q 13; (case ho => rfl); (case hg => rfl)) | (apply TriM.qYes 13; (case ho => rfl); (case hg => rfl); (case hyl => rfl); (case hb => with_reducible rfl))); (case hB => kernel_rfl); (case hd => rfl); (case hn => rfl); (case h => (intro F K hK; (try dsimp only [List.cons_append, List.nil_append]); (apply o_loadAggW; (case hx => rfl); (case hr => exact rdw_ex (by (with_reducible repeat constructor)) hr); (case hv => exact KL_two ks (i + 1) c); (case hl => rfl); (case hn => rfl)); exact hK)))
    ((first | (apply TriM.q 14; (case ho => rfl); (case hg => rfl)) | (apply TriM.qYes 14; (case ho => rfl); (case hg => rfl); (case hyl => rfl); (case hb => with_reducible rfl))); (case hB => kernel_rfl); (case hd => rfl); (case hn => rfl); (case h => (intro F K hK; (try dsimp only [List.cons_append, List.nil_append]); apply o_callV (hs := node_Less k (ks.getD (i + 1) (0, 0))); (case hargs => (repeat first | exact evs.nil | (apply evs.cons; case a => rfl))); (case hpre => exact fun _ _ => trivial); (case hn => rfl); exact hK)))
    ((first | (apply TriM.q 15; rfl; rfl) | (apply TriM.qYes 15; rfl; rfl; rfl; with_reducible rfl)); kernel_rfl; rfl; rfl; (intro F K hK; apply o_not; rfl; rfl; exact hK); (first | (apply TriM.q 16; rfl; rfl) | (apply TriM.qYes 16; rfl; rfl; rfl; with_reducible rfl)); kernel_rfl; rfl; rfl; (intro F K hK; apply o_pickT; (iterate 4 rfl); exact hK))
    (apply TriM.nil; (case hr => kernel_rfl); (try dsimp only [List.cons_append, List.nil_append]))
    (refine Tri.thenN ?_)
    rw [childGo] at hi
    cases hq : lessK k (ks.getD (i + 1) (0, 0)) with
    | true =>
      rw [if_neg (by rw [hq]; simp)] at hi
      ((with_reducible apply Tri.setb 22 (false)); (case h => rfl); (case hi => rfl))
      (apply Tri.condF; rfl; rfl; (with_reducible refine Tri.exit (Tri.thenE (Tri.thenE (Tri.blockE (Tri.thenN (Tri.seq (Tri.region ?_))))))); apply Tri.op; rfl; apply o_move; rfl; rfl; apply Tri.op; rfl; apply o_assign; rfl; rfl; refine Tri.nil (Tri.thenN (Tri.ret ?_)))
      (apply Tri.fin; (case hr => rfl); (case h => (repeat (first | exact ResL.nil | (apply ResL.cons; (case a => (first | exact Res1.tmp rfl | (apply Res1.cell; rfl; (with_reducible repeat constructor); rfl) | (apply Res1.agg; rfl; (with_reducible repeat constructor); rfl; rfl))))))); (apply fin_R (Hn := [])); (case p => (repeat first | with_reducible constructor | constructor)))
      exact ⟨by rw [hi]; rfl, rfl⟩
    | false =>
      rw [if_pos ⟨c, hq⟩] at hi
      have hf' : ks.length ≤ g + (i + 1) := by omega
      have hk' : i + 1 ≤ ks.length := by omega
      ((with_reducible apply Tri.setb 22 (true)); (case h => rfl); (case hi => rfl))
      (apply Tri.condT; rfl; rfl; refine Tri.skip (Tri.thenN (Tri.block (Tri.region ?_))); apply Tri.op; rfl; apply o_move; rfl; rfl; apply Tri.op; rfl; apply o_add64; rfl; rfl; rfl; (omega); apply Tri.op; rfl; apply o_assign; rfl; rfl; refine Tri.nil (Tri.blockN (Tri.thenN ?_)))
      ((with_reducible apply Tri.seti 5 (((i + 1 : Nat) : Int))); (case h => rfl); (case hi => omega))
      (apply Tri.again (y := ⟨i + 1, g, hf', hk', hi⟩); (case p => ((try dsimp only); (repeat (first | exact Pulls.nil | (apply Pulls.cons; (case a => (first | ((repeat (first | with_reducible exact Gv.Pull.head | with_reducible apply Gv.Pull.tail)); done) | (repeat (first | exact Gv.Pull.head | apply Gv.Pull.tail))))))))); (case hm => ((try dsimp only); omega)); (try dsimp only))
      (repeat (first | exact trivial | refine And.intro (by rfl) ?_))
  · have hi' : i = childN ks k := by
      rw [← hi]
      cases f with
      | zero => rfl
      | succ f => rw [childGo, if_neg (fun q => c q.1)]
    ((with_reducible apply TriM.setb 12 (false)); (case h => rfl); (case hi => exact decide_eq_false (by omega)))
    ((apply TriM.qNo (c := false) 7; (case ho => rfl); (case hg => rfl); (case hyl => rfl); (case hb => with_reducible rfl); (case hc => rfl); (case hB => kernel_rfl); (case hd => rfl); (case hn => rfl)); (apply TriM.qNo (c := false) 8; (case ho => rfl); (case hg => rfl); (case hyl => rfl); (case hb => with_reducible rfl); (case hc => rfl); (case hB => kernel_rfl); (case hd => rfl); (case hn => rfl)); (apply TriM.qNo (c := false) 9; (case ho => rfl); (case hg => rfl); (case hyl => rfl); (case hb => with_reducible rfl); (case hc => rfl); (case hB => kernel_rfl); (case hd => rfl); (case hn => rfl)); (apply TriM.qNo (c := false) 10; (case ho => rfl); (case hg => rfl); (case hyl => rfl); (case hb => with_reducible rfl); (case hc => rfl); (case hB => kernel_rfl); (case hd => rfl); (case hn => rfl)); (apply TriM.qNo (c := false) 11; (case ho => rfl); (case hg => rfl); (case hyl => rfl); (case hb => with_reducible rfl); (case hc => rfl); (case hB => kernel_rfl); (case hd => rfl); (case hn => rfl)); (apply TriM.qNo (c := false) 12; (case ho => rfl); (case hg => rfl); (case hyl => rfl); (case hb => with_reducible rfl); (case hc => rfl); (case hB => kernel_rfl); (case hd => rfl); (case hn => rfl)); (apply TriM.qNo (c := false) 13; (case ho => rfl); (case hg => rfl); (case hyl => rfl); (case hb => with_reducible rfl); (case hc => rfl); (case hB => kernel_rfl); (case hd => rfl); (case hn => rfl)); (apply TriM.qNo (c := false) 14; (case ho => rfl); (case hg => rfl); (case hyl => rfl); (case hb => with_reducible rfl); (case hc => rfl); (case hB => kernel_rfl); (case hd => rfl); (case hn => rfl)); (apply TriM.qNo (c := false) 15; (case ho => rfl); (case hg => rfl); (case hyl => rfl); (case hb => with_reducible rfl); (case hc => rfl); (case hB => kernel_rfl); (case hd => rfl); (case hn => rfl)); (first | (apply TriM.q 16; rfl; rfl) | (apply TriM.qYes 16; rfl; rfl; rfl; with_reducible rfl)); kernel_rfl; rfl; rfl; (intro F K hK; apply o_pickF; (iterate 4 rfl); exact hK))
    (apply TriM.nil; (case hr => kernel_rfl); (try dsimp only [List.cons_append, List.nil_append]))
    (refine Tri.thenN ?_; apply Tri.condF; rfl; rfl; (with_reducible refine Tri.exit (Tri.thenE (Tri.thenE (Tri.blockE (Tri.thenN (Tri.seq (Tri.region ?_))))))); apply Tri.op; rfl; apply o_move; rfl; rfl; apply Tri.op; rfl; apply o_assign; rfl; rfl; refine Tri.nil (Tri.thenN (Tri.ret ?_)))
    (apply Tri.fin; (case hr => rfl); (case h => (repeat (first | exact ResL.nil | (apply ResL.cons; (case a => (first | exact Res1.tmp rfl | (apply Res1.cell; rfl; (with_reducible repeat constructor); rfl) | (apply Res1.agg; rfl; (with_reducible repeat constructor); rfl; rfl))))))); (apply fin_R (Hn := [])); (case p => (repeat first | with_reducible constructor | constructor)))
    exact ⟨by rw [hi']; rfl, rfl⟩
end Go.Proofs.Ytckdlfbbkemklaa
end
section
/- tree: a view's write: the walk. -/
namespace Go.Proofs.Ytckdlfbbkemklaa
open Go Go.RowKit Go.Gv
set_option linter.unusedVariables false
set_option linter.unusedSimpArgs false

theorem z513' : (Value.int .i64 0 :: List.replicate 512 (Value.bool false)).length = 513 := by rw [List.length_cons, List.length_replicate]
set_option maxHeartbeats 8000000 in
theorem view_write (pv d : Nat) (v : VS) (leaf : Bool) (ev kv dv : Value) (x : ND3) (l : List (Value × Nat × List Value)) (hv : v.ok) (hl : v.S.W.length ≤ 800000)
    (mE : (ev, x.E.length, EL x.E) ∈ l) (mK : (kv, x.K.length, KL x.K) ∈ l) (mD : (dv, x.D.length, NL x.D) ∈ l) (hR : ∀ e ∈ x.E, entR e) :
    Gv.Spec Try.prog 125 #[.pointer (some ⟨pv, 0, none⟩), ndW leaf ev kv dv] [blk pv 194 (viewL d v), DSK d v.S, manyRd l]
    (fun r H' => r = .tuple #[.int .i64 (wrN v leaf x).2.1, .int .i64 ((wrN v leaf x).2.2 : Int)] ∧ H' = [blk pv 194 (viewL d (wrN v leaf x).1), DSK d (wrN v leaf x).1.S, manyRd l]) := by
  refine Gv.Spec.of (fun w h0 hw => ?_)
  refine Calls.enter Try.func125 rfl rfl rfl hw ?_
  simp only [argSlots]
  (try dsimp only [List.cons_append, List.nil_append])
  (refine Tri.seq (Tri.region ?_); apply Tri.op; rfl)
  (first | (apply o_boxA; (case hx => rfl); (case hn => rfl); intro b3) | (apply o_box1; (case hx => rfl); (case h1 => rfl); (case hn => rfl); intro b3))
  (apply Tri.op; rfl; apply o_assign; rfl; rfl; apply Tri.op; rfl; apply o_assign; rfl; rfl; refine Tri.nil (Tri.thenN (Tri.seq (Tri.region ?_))); apply Tri.op; rfl)
  (apply o_loadAll (cs := ndLL leaf ev kv dv); (case hx => rfl); (case p => exact (by (with_reducible repeat constructor))); (case hl => rfl); (case hn => rfl))
  (apply Tri.op; rfl)
  by_cases hrt : rightN leaf x.E x.K x.D = true
  · (apply o_callR (hs := node_PutN leaf ev kv dv x.E x.K x.D hrt hR); (case hargs => (repeat first | exact evs.nil | (apply evs.cons; case a => rfl))); (case hpre => exact fun w' hw' => ⟨rdw_many (by (with_reducible repeat constructor)) mE w' hw', rdw_many (by (with_reducible repeat constructor)) mK w' hw', rdw_many (by (with_reducible repeat constructor)) mD w' hw'⟩); (case hn => rfl))
    rintro r1 H1 ⟨u, rfl, rfl⟩
    (try dsimp only [List.cons_append, List.nil_append])
    (apply Tri.op; rfl; apply o_move; rfl; rfl; apply Tri.op; rfl; apply o_extract; rfl; rfl; rfl; apply Tri.op; rfl; apply o_extract; rfl; rfl; rfl; apply Tri.op; rfl; apply o_assign; rfl; rfl; apply Tri.op; rfl; apply o_assign; rfl; rfl; refine Tri.nil (Tri.thenN (Tri.seq (Tri.seq (Tri.region ?_)))); apply Tri.op; rfl; apply o_move; rfl; rfl; apply Tri.op; rfl; apply o_neq; rfl; rfl; rfl; refine Tri.nil (Tri.thenN ?_))
    ((with_reducible apply Tri.setb 17 (false)); (case h => rfl); (case hi => rfl))
    (apply Tri.condF; rfl; rfl; refine Tri.skip (Tri.thenN ?_))
    obtain ⟨T, hT⟩ : ∃ T, T = takeM v.m v.old 1 := ⟨_, rfl⟩
    have hTl : T.1.u.length = 512 := by rw [hT]; exact takeM_length _ _ _ hv.m
    have htk := bm_Take v.m v.old 1 hv.m hv.o
    rw [← hT] at htk
    (apply Tri.seqMeet (α := Nat) (Lx := fun x => [(0, .pointer (some ⟨pv, 0, none⟩)), (3, .pointer (some ⟨b3, 0, none⟩)), (6, u), (7, .int .i64 (T.2.2 : Int)), (8, .pointer (some ⟨x, 0, none⟩)), (9, .int .i64 T.2.1)]) (Hx := fun y => [own 5 1 u (putN leaf x.E x.K x.D).length (B8 (putN leaf x.E x.K x.D)), blk b3 33 (ndLL leaf ev kv dv), blk pv 194 (viewL d v), DSK d v.S, manyRd l, blk y 149 (bmL T.1), Ex h0]); rotate_left; (rintro b8; (try dsimp only)); rotate_left)
    · skip
      ((first | with_reducible apply Tri.mix [blk pv 194 (viewL d v)] | (apply TriR.mix [blk pv 194 (viewL d v)]; (case hnd => rfl))); (case p => (repeat first | with_reducible constructor | constructor)); (dsimp only [List.length]))
      ((first | (apply TriM.q 0; rfl; rfl) | (apply TriM.qYes 0; rfl; rfl; rfl; with_reducible rfl)); kernel_rfl; rfl; rfl; (intro F K hK; apply o_move; rfl; rfl; exact hK); (first | (apply TriM.q 1; rfl; rfl) | (apply TriM.qYes 1; rfl; rfl; rfl; with_reducible rfl)); kernel_rfl; rfl; rfl; (intro F K hK; apply o_nilCheck; rfl; rfl; exact hK); (first | (apply TriM.q 2; rfl; rfl) | (apply TriM.qYes 2; rfl; rfl; rfl; with_reducible rfl)); kernel_rfl; rfl; rfl; (intro F K hK; apply o_fieldAddr; rfl; rfl; exact hK))
      ((first | (apply TriM.q 3; (case ho => rfl); (case hg => rfl)) | (apply TriM.qYes 3; (case ho => rfl); (case hg => rfl); (case hyl => rfl); (case hb => with_reducible rfl))); (case hB => kernel_rfl); (case hd => rfl); (case hn => rfl); (case h => (intro F K hK; (try dsimp only [List.cons_append, List.nil_append]); (apply o_loadAgg; (case hx => rfl); (case p => (with_reducible repeat constructor)); (case hv => exact viewL_m hv); (case hl => exact bmL_len hv.m); (case hn => rfl)); exact hK)))
      ((first | (apply TriM.q 4; rfl; rfl) | (apply TriM.qYes 4; rfl; rfl; rfl; with_reducible rfl)); kernel_rfl; rfl; rfl; (intro F K hK; apply o_move; rfl; rfl; exact hK); (first | (apply TriM.q 5; rfl; rfl) | (apply TriM.qYes 5; rfl; rfl; rfl; with_reducible rfl)); kernel_rfl; rfl; rfl; (intro F K hK; apply o_nilCheck; rfl; rfl; exact hK); (first | (apply TriM.q 6; rfl; rfl) | (apply TriM.qYes 6; rfl; rfl; rfl; with_reducible rfl)); kernel_rfl; rfl; rfl; (intro F K hK; apply o_fieldAddr; rfl; rfl; exact hK))
      ((first | (apply TriM.q 7; (case ho => rfl); (case hg => rfl)) | (apply TriM.qYes 7; (case ho => rfl); (case hg => rfl); (case hyl => rfl); (case hb => with_reducible rfl))); (case hB => kernel_rfl); (case hd => rfl); (case hn => rfl); (case h => (intro F K hK; (try dsimp only [List.cons_append, List.nil_append]); (apply o_loadAgg; (case hx => rfl); (case p => (with_reducible repeat constructor)); (case hv => exact viewL_o hv); (case hl => exact bmL_len hv.o); (case hn => rfl)); exact hK)))
      ((first | (apply TriM.q 8; (case ho => rfl); (case hg => rfl)) | (apply TriM.qYes 8; (case ho => rfl); (case hg => rfl); (case hyl => rfl); (case hb => with_reducible rfl))); (case hB => kernel_rfl); (case hd => rfl); (case hn => rfl); (case h => (intro F K hK; (try dsimp only [List.cons_append, List.nil_append]); apply o_callV (hs := htk); (case hargs => (repeat first | exact evs.nil | (apply evs.cons; case a => rfl))); (case hpre => exact fun _ _ => trivial); (case hn => rfl); exact hK)))
      ((first | (apply TriM.q 9; rfl; rfl) | (apply TriM.qYes 9; rfl; rfl; rfl; with_reducible rfl)); kernel_rfl; rfl; rfl; (intro F K hK; apply o_move; rfl; rfl; exact hK); (first | (apply TriM.q 10; rfl; rfl) | (apply TriM.qYes 10; rfl; rfl; rfl; with_reducible rfl)); kernel_rfl; rfl; rfl; (intro F K hK; apply o_extract; rfl; rfl; rfl; exact hK); (first | (apply TriM.q 11; rfl; rfl) | (apply TriM.qYes 11; rfl; rfl; rfl; with_reducible rfl)); kernel_rfl; rfl; rfl; (intro F K hK; apply o_extract; rfl; rfl; rfl; exact hK); (first | (apply TriM.q 12; rfl; rfl) | (apply TriM.qYes 12; rfl; rfl; rfl; with_reducible rfl)); kernel_rfl; rfl; rfl; (intro F K hK; apply o_extract; rfl; rfl; rfl; exact hK))
      (apply TriM.a 13; (case ho => rfl); (case hg => rfl); (case hr => kernel_rfl); (try dsimp only [List.cons_append, List.nil_append]))
      (apply o_alloc; (case hn => rfl); intro b8)
      (apply TriM.back; (case p => (repeat first | with_reducible constructor | constructor)))
      (apply TriM.a 14; (case ho => rfl); (case hg => rfl); (case hr => kernel_rfl); (try dsimp only [List.cons_append, List.nil_append]))
      (apply o_storeAll (ys := bmL T.1); (case hx => rfl); (case hy => rfl); (case p => (with_reducible repeat constructor)); (case hl => exact bmL_len hTl); (case hc => exact z513'); (case h1 => exact bmL_one _))
      (apply TriM.back; (case p => (repeat first | with_reducible constructor | constructor)))
      ((first | (apply TriM.q 15; rfl; rfl) | (apply TriM.qYes 15; rfl; rfl; rfl; with_reducible rfl)); kernel_rfl; rfl; rfl; (intro F K hK; apply o_assign; rfl; rfl; exact hK); (first | (apply TriM.q 16; rfl; rfl) | (apply TriM.qYes 16; rfl; rfl; rfl; with_reducible rfl)); kernel_rfl; rfl; rfl; (intro F K hK; apply o_assign; rfl; rfl; exact hK))
      (apply TriM.nil; (case hr => kernel_rfl); (try dsimp only [List.cons_append, List.nil_append]))
      (refine Tri.thenN ?_)
      (apply Tri.reach (y := b8); (case hL => ((try dsimp only); (repeat (first | exact trivial | refine And.intro (by rfl) ?_)))); (case p => ((try dsimp only); (repeat (first | exact Pulls.nil | (apply Pulls.cons; (case a => (first | ((repeat (first | with_reducible exact Gv.Pull.head | with_reducible apply Gv.Pull.tail)); done) | (repeat (first | exact Gv.Pull.head | apply Gv.Pull.tail))))))))))
    by_cases hz : T.2.2 = 0
    · (refine Tri.seq (Tri.seq (Tri.region ?_)); apply Tri.op; rfl; apply o_move; rfl; rfl; apply Tri.op; rfl; apply o_neq; rfl; rfl; rfl; refine Tri.nil (Tri.thenN ?_))
      ((with_reducible apply Tri.setb 33 (false)); (case h => rfl); (case hi => (rw [hz]; rfl)))
      (apply Tri.condF; rfl; rfl; refine Tri.skip (Tri.thenN (Tri.seq (Tri.region ?_))); apply Tri.op; rfl; apply o_move; rfl; rfl; apply Tri.op; rfl)
      (apply o_loadAll (cs := bmL T.1); (case hx => rfl); (case p => exact (by (with_reducible repeat constructor))); (case hl => exact bmL_len hTl); (case hn => rfl))
      (apply Tri.op; rfl; apply o_nilCheck; rfl; rfl; apply Tri.op; rfl; apply o_fieldAddr; rfl; rfl; apply Tri.op; rfl)
      (apply o_storeAgg (ys := bmL T.1); (case hx => rfl); (case hy => rfl); (case hl => exact bmL_len hTl); (case h1 => exact bmL_one _); (case p => (with_reducible repeat constructor)); (case hi => (rw [viewL_len hv]; omega)))
      ((with_reducible apply Tri.eqA (A := blk pv _ _) (B := blk pv 194 (viewL d ⟨v.S, v.gen, T.1, v.old⟩))); (case p => (with_reducible repeat constructor)); (case e => (rw [viewL_set hv T.1 v.S])))
      (refine Tri.nil (Tri.thenN ?_))
      refine Tri.seq ?_
      (refine Tri.region ?_; apply Tri.op; rfl; apply o_assign; rfl; rfl; refine Tri.nil (Tri.thenN ?_))
      (apply Tri.seqMeet (α := Unit) (Lx := fun _ => [(0, .pointer (some ⟨pv, 0, none⟩)), (6, u), (9, .int .i64 T.2.1), (10, .int .u8 ((kindN leaf).toNat : Int))]) (Hx := fun _ => [own 5 1 u (putN leaf x.E x.K x.D).length (B8 (putN leaf x.E x.K x.D)), blk pv 194 (viewL d ⟨v.S, v.gen, T.1, v.old⟩), DSK d v.S, manyRd l, Ex h0]); rotate_left; (rintro ⟨⟩; (try dsimp only)); rotate_left)
      · cases leaf
        · (refine Tri.seq (Tri.region ?_); apply Tri.op; rfl; apply o_fieldAddr; rfl; rfl; apply Tri.op; rfl; apply o_load; rfl; (with_reducible repeat constructor); rfl; rfl; refine Tri.nil (Tri.thenN ?_); apply Tri.condF; rfl; rfl; refine Tri.skip (Tri.thenN ?_))
          ((with_reducible apply Tri.seti 10 (((kindN false).toNat : Int))); (case h => rfl); (case hi => rfl))
          (apply Tri.reach (y := ()); (case hL => ((try dsimp only); (repeat (first | exact trivial | refine And.intro (by rfl) ?_)))); (case p => ((try dsimp only); (repeat (first | exact Pulls.nil | (apply Pulls.cons; (case a => (first | ((repeat (first | with_reducible exact Gv.Pull.head | with_reducible apply Gv.Pull.tail)); done) | (repeat (first | exact Gv.Pull.head | apply Gv.Pull.tail))))))))))
        · (refine Tri.seq (Tri.region ?_); apply Tri.op; rfl; apply o_fieldAddr; rfl; rfl; apply Tri.op; rfl; apply o_load; rfl; (with_reducible repeat constructor); rfl; rfl; refine Tri.nil (Tri.thenN ?_); apply Tri.condT; rfl; rfl; refine Tri.region ?_; apply Tri.op; rfl; apply o_assign; rfl; rfl; refine Tri.nil (Tri.thenN ?_))
          ((with_reducible apply Tri.seti 10 (((kindN true).toNat : Int))); (case h => rfl); (case hi => rfl))
          (apply Tri.reach (y := ()); (case hL => ((try dsimp only); (repeat (first | exact trivial | refine And.intro (by rfl) ?_)))); (case p => ((try dsimp only); (repeat (first | exact Pulls.nil | (apply Pulls.cons; (case a => (first | ((repeat (first | with_reducible exact Gv.Pull.head | with_reducible apply Gv.Pull.tail)); done) | (repeat (first | exact Gv.Pull.head | apply Gv.Pull.tail))))))))))
      obtain ⟨q, hq⟩ : ∃ q : PG, q = ⟨kindN leaf, T.2.1, v.gen, putN leaf x.E x.K x.D⟩ := ⟨_, rfl⟩
      refine Tri.shut (e := 5) (size := 1) (v := u) (by (with_reducible repeat constructor)) (fun h2 ho => ?_)
      have hr2 : Rd h2 u q.b.length (B8 q.b) := by rw [hq]; exact own_Rd ho
      have hgp : q.g < 18446744073709551616 := by rw [hq]; exact hv.g
      obtain ⟨Au, cu, hu, _⟩ := (own_Rd ho).slice
      subst hu
      have hw1 : wrN v leaf x = (⟨(wrPg v.S q).1, v.gen, T.1, v.old⟩, T.2.1, (wrPg v.S q).2) := by rw [wrN, if_neg (by rw [hrt]; simp), ← hT, if_neg (by omega), ← hq]
      rw [hw1]
      obtain ⟨v1, hv1⟩ : ∃ v1 : VS, v1 = ⟨v.S, v.gen, T.1, v.old⟩ := ⟨_, rfl⟩
      have hvl : viewL d ⟨(wrPg v.S q).1, v.gen, T.1, v.old⟩ = viewL d v1 := by rw [hv1]; rfl
      have hgl : (v1.gen : Int) = v.gen := by rw [hv1]
      have hqL : ∀ w', [.int .u8 ((kindN leaf).toNat : Int), .int .i64 T.2.1, .int .u64 (v1.gen : Int), w'] = pgL q w' := fun w' => by rw [hq, hv1]; rfl
      rw [hvl]
      rw [← hv1]
      (refine Tri.seq ?_)
      ((first | with_reducible apply Tri.mix [blk pv 194 (viewL d v1)] | (apply TriR.mix [blk pv 194 (viewL d v1)]; (case hnd => rfl))); (case p => (repeat first | with_reducible constructor | constructor)); (dsimp only [List.length]))
      ((first | (apply TriM.q 0; rfl; rfl) | (apply TriM.qYes 0; rfl; rfl; rfl; with_reducible rfl)); kernel_rfl; rfl; rfl; (intro F K hK; apply o_move; rfl; rfl; exact hK); (first | (apply TriM.q 1; rfl; rfl) | (apply TriM.qYes 1; rfl; rfl; rfl; with_reducible rfl)); kernel_rfl; rfl; rfl; (intro F K hK; apply o_move; rfl; rfl; exact hK); (first | (apply TriM.q 2; rfl; rfl) | (apply TriM.qYes 2; rfl; rfl; rfl; with_reducible rfl)); kernel_rfl; rfl; rfl; (intro F K hK; apply o_nilCheck; rfl; rfl; exact hK); (first | (apply TriM.q 3; rfl; rfl) | (apply TriM.qYes 3; rfl; rfl; rfl; with_reducible rfl)); kernel_rfl; rfl; rfl; (intro F K hK; apply o_fieldAddr; rfl; rfl; exact hK))
      ((first | (apply TriM.q 4; (case ho => rfl); (case hg => rfl)) | (apply TriM.qYes 4; (case ho => rfl); (case hg => rfl); (case hyl => rfl); (case hb => with_reducible rfl))); (case hB => kernel_rfl); (case hd => rfl); (case hn => rfl); (case h => (intro F K hK; (try dsimp only [List.cons_append, List.nil_append]); (apply o_loadAgg; (case hx => rfl); (case p => (with_reducible repeat constructor)); (case hv => exact viewL_tab d v1); (case hl => exact tabL_length); (case hn => rfl)); exact hK)))
      ((first | (apply TriM.q 5; rfl; rfl) | (apply TriM.qYes 5; rfl; rfl; rfl; with_reducible rfl)); kernel_rfl; rfl; rfl; (intro F K hK; apply o_move; rfl; rfl; exact hK); (first | (apply TriM.q 6; rfl; rfl) | (apply TriM.qYes 6; rfl; rfl; rfl; with_reducible rfl)); kernel_rfl; rfl; rfl; (intro F K hK; apply o_nilCheck; rfl; rfl; exact hK); (first | (apply TriM.q 7; rfl; rfl) | (apply TriM.qYes 7; rfl; rfl; rfl; with_reducible rfl)); kernel_rfl; rfl; rfl; (intro F K hK; apply o_fieldAddr; rfl; rfl; exact hK))
      ((first | (apply TriM.q 8; (case ho => rfl); (case hg => rfl)) | (apply TriM.qYes 8; (case ho => rfl); (case hg => rfl); (case hyl => rfl); (case hb => with_reducible rfl))); (case hB => kernel_rfl); (case hd => rfl); (case hn => rfl); (case h => (intro F K hK; (try dsimp only [List.cons_append, List.nil_append]); (apply o_load; (case hx => rfl); (case p => (with_reducible repeat constructor)); (case hv => exact viewL_d d v1); (case hn => rfl)); exact hK)))
      ((first | (apply TriM.q 9; rfl; rfl) | (apply TriM.qYes 9; rfl; rfl; rfl; with_reducible rfl)); kernel_rfl; rfl; rfl; (intro F K hK; apply o_move; rfl; rfl; exact hK); (first | (apply TriM.q 10; rfl; rfl) | (apply TriM.qYes 10; rfl; rfl; rfl; with_reducible rfl)); kernel_rfl; rfl; rfl; (intro F K hK; apply o_move; rfl; rfl; exact hK); (first | (apply TriM.q 11; rfl; rfl) | (apply TriM.qYes 11; rfl; rfl; rfl; with_reducible rfl)); kernel_rfl; rfl; rfl; (intro F K hK; apply o_move; rfl; rfl; exact hK); (first | (apply TriM.q 12; rfl; rfl) | (apply TriM.qYes 12; rfl; rfl; rfl; with_reducible rfl)); kernel_rfl; rfl; rfl; (intro F K hK; apply o_nilCheck; rfl; rfl; exact hK); (first | (apply TriM.q 13; rfl; rfl) | (apply TriM.qYes 13; rfl; rfl; rfl; with_reducible rfl)); kernel_rfl; rfl; rfl; (intro F K hK; apply o_fieldAddr; rfl; rfl; exact hK))
      ((first | (apply TriM.q 14; (case ho => rfl); (case hg => rfl)) | (apply TriM.qYes 14; (case ho => rfl); (case hg => rfl); (case hyl => rfl); (case hb => with_reducible rfl))); (case hB => kernel_rfl); (case hd => rfl); (case hn => rfl); (case h => (intro F K hK; (try dsimp only [List.cons_append, List.nil_append]); (apply o_load; (case hx => rfl); (case p => (with_reducible repeat constructor)); (case hv => exact viewL_g d v1); (case hn => rfl)); exact hK)))
      ((first | (apply TriM.q 15; rfl; rfl) | (apply TriM.qYes 15; rfl; rfl; rfl; with_reducible rfl)); kernel_rfl; rfl; rfl; (intro F K hK; apply o_move; rfl; rfl; exact hK))
      ((first | (apply TriM.q 16; (case ho => rfl); (case hg => rfl)) | (apply TriM.qYes 16; (case ho => rfl); (case hg => rfl); (case hyl => rfl); (case hb => with_reducible rfl))); (case hB => kernel_rfl); (case hd => rfl); (case hn => rfl); (case h => (intro F K hK; (try dsimp only [List.cons_append, List.nil_append]); (apply o_build (ys := [.int .u8 ((kindN leaf).toNat : Int), .int .i64 T.2.1, .int .u64 (v1.gen : Int), .slice Au (putN leaf x.E x.K x.D).length cu]); (case hp => (repeat first | exact pev.nil | (apply pev.cons; case a => rfl))); (case hf => rfl); (case hn => rfl)); exact hK)))
      ((with_reducible apply TriM.setv 57 ((pgV q (.slice Au (putN leaf x.E x.K x.D).length cu)))); (case h => rfl); (case hv => (rw [hqL]; rfl)))
      (apply TriM.a 17; (case ho => rfl); (case hg => rfl); (case hr => kernel_rfl); (try dsimp only [List.cons_append, List.nil_append]))
      (apply o_callS (hs := page_Write d v.S q (.slice Au (putN leaf x.E x.K x.D).length cu) h2 hr2 hgp hv.S hl); (case hargs => (repeat first | exact evs.nil | (apply evs.cons; case a => rfl))); (case p => (repeat first | with_reducible constructor | constructor)); (case hn => rfl))
      rintro r9 H9 ⟨rfl, rfl⟩
      (try dsimp only [List.cons_append, List.nil_append])
      (apply TriM.back; (case p => (repeat first | with_reducible constructor | constructor)))
      ((first | (apply TriM.q 18; rfl; rfl) | (apply TriM.qYes 18; rfl; rfl; rfl; with_reducible rfl)); kernel_rfl; rfl; rfl; (intro F K hK; apply o_assign; rfl; rfl; exact hK); (first | (apply TriM.q 19; rfl; rfl) | (apply TriM.qYes 19; rfl; rfl; rfl; with_reducible rfl)); kernel_rfl; rfl; rfl; (intro F K hK; apply o_assign; rfl; rfl; exact hK))
      (apply TriM.nil; (case hr => kernel_rfl); (try dsimp only [List.cons_append, List.nil_append]))
      (refine Tri.thenN (Tri.ret ?_))
      (apply Tri.fin; (case hr => rfl); (case h => exact ResL.cons (Res1.tmp rfl) (ResL.cons (Res1.tmp rfl) (ResL.nil))); (apply fin_R (Hn := [blk pv 194 (viewL d v1), DSK d (wrPg v.S q).1, manyRd l])); (case p => exact (by (repeat first | with_reducible constructor | constructor))); exact ⟨rfl, rfl⟩)
    · (refine Tri.seq (Tri.seq (Tri.region ?_)); apply Tri.op; rfl; apply o_move; rfl; rfl; apply Tri.op; rfl; apply o_neq; rfl; rfl; rfl; refine Tri.nil (Tri.thenN ?_))
      ((with_reducible apply Tri.setb 33 (true)); (case h => rfl); (case hi => (rw [decide_eq_true]; omega)))
      (apply Tri.condT; rfl; rfl; refine Tri.seq (Tri.region ?_); apply Tri.op; rfl; apply o_move; rfl; rfl; apply Tri.op; rfl; apply o_assign; rfl; rfl; apply Tri.op; rfl; apply o_assign; rfl; rfl; refine Tri.nil (Tri.thenN (Tri.ret (Tri.thenR ?_))))
      have hw1 : wrN v leaf x = (v, 0, T.2.2) := by rw [wrN, if_neg (by rw [hrt]; simp), ← hT, if_pos hz]
      rw [hw1]
      (apply Tri.fin; (case hr => rfl); (case h => exact ResL.cons (Res1.tmp rfl) (ResL.cons (Res1.tmp rfl) (ResL.nil))); (apply fin_R (Hn := [blk pv 194 (viewL d v), DSK d v.S, manyRd l])); (case p => exact (by (repeat first | with_reducible constructor | constructor))); exact ⟨rfl, rfl⟩)
  · have hrt' : rightN leaf x.E x.K x.D = false := by simpa using hrt
    (apply o_callR (hs := node_PutN_no leaf ev kv dv x.E x.K x.D hrt'); (case hargs => (repeat first | exact evs.nil | (apply evs.cons; case a => rfl))); (case hpre => exact fun w' hw' => ⟨rdw_many (by (with_reducible repeat constructor)) mE w' hw', rdw_many (by (with_reducible repeat constructor)) mK w' hw', rdw_many (by (with_reducible repeat constructor)) mD w' hw'⟩); (case hn => rfl))
    rintro r1 H1 ⟨rfl, rfl⟩
    (try dsimp only [List.cons_append, List.nil_append])
    (apply Tri.op; rfl; apply o_move; rfl; rfl; apply Tri.op; rfl; apply o_extract; rfl; rfl; rfl; apply Tri.op; rfl; apply o_extract; rfl; rfl; rfl; apply Tri.op; rfl; apply o_assign; rfl; rfl; apply Tri.op; rfl; apply o_assign; rfl; rfl; refine Tri.nil (Tri.thenN (Tri.seq (Tri.seq (Tri.region ?_)))); apply Tri.op; rfl; apply o_move; rfl; rfl; apply Tri.op; rfl; apply o_neq; rfl; rfl; rfl; refine Tri.nil (Tri.thenN ?_))
    ((with_reducible apply Tri.setb 17 (true)); (case h => rfl); (case hi => rfl))
    (apply Tri.condT; rfl; rfl; refine Tri.seq (Tri.region ?_); apply Tri.op; rfl; apply o_move; rfl; rfl; apply Tri.op; rfl; apply o_assign; rfl; rfl; apply Tri.op; rfl; apply o_assign; rfl; rfl; refine Tri.nil (Tri.thenN (Tri.ret (Tri.thenR ?_))))
    have hw1 : wrN v leaf x = (v, 0, 1) := by rw [wrN, if_pos hrt']
    rw [hw1]
    (apply Tri.fin; (case hr => rfl); (case h => exact ResL.cons (Res1.tmp rfl) (ResL.cons (Res1.tmp rfl) (ResL.nil))); (apply fin_R (Hn := [blk pv 194 (viewL d v), DSK d v.S, manyRd l])); (case p => exact (by (repeat first | with_reducible constructor | constructor))); exact ⟨rfl, rfl⟩)
end Go.Proofs.Ytckdlfbbkemklaa
end
