/- Texts of this claim, put together: TvPlain16, TvPlain17, TvPlain18, TvPlain19, TxPlain2, SpPlain, SpPlain2, SpPlain3, BmPut, DvWalk2, TxPlain3, TvWalk6, TvWalk, WkWalk, WkWalk3, TvWalk7, TvWalk2, TvWalk3, TvWalk4, TvWalk11, TvWalk12, SlWalk4, TvWalk13, TvPlain5, TvWalk8, TvWalk9, TvWalk10. -/
import Derived.Test.YtcglabmlhljkmaaGreatZ05
import Derived.Test.YtcglabmlhljkmaaGreatZ03
import Derived.Test.YtcglabmlhljkmaaGreatZ04
import Derived.Test.YtcglabmlhljkmaaGreatZ02
import Derived.Test.YtcglabmlhljkmaaGreatZ00
import Derived.Test.YtcglabmlhljkmaaGreatZ01
section
/- tree: an entry more behind all others: what is asked, and what comes of it. -/
namespace Go.Proofs.YtcglabmlhljkmaaGreat
open Go Go.RowKit Go.Gv
set_option linter.unusedVariables false
set_option linter.unusedSimpArgs false

theorem lessK_tot {a b : KEY} (h : lessK a b = false) (hn : a ≠ b) : lessK b a = true := by
  unfold lessK at h ⊢
  have : ¬ (a.1 = b.1 ∧ a.2 = b.2) := fun c => hn (Prod.ext c.1 c.2)
  rw [Bool.or_eq_false_iff, decide_eq_false_iff_not] at h
  obtain ⟨h1, h2⟩ := h
  rw [Bool.and_eq_false_iff, decide_eq_false_iff_not, decide_eq_false_iff_not] at h2
  by_cases e : a.1 = b.1
  · have e2 : ¬ a.2 = b.2 := fun c => this ⟨e, c⟩
    have h3 : ¬ a.2 < b.2 := h2.elim (fun q => absurd e q) id
    rw [decide_eq_true e.symm, decide_eq_true (show b.2 < a.2 by omega)]; simp
  · rw [decide_eq_true (show b.1 < a.1 by omega)]; simp
theorem ent_span {e : ENT} (h : entOk e = true) : e.key.2 ≤ e.fin := by
  simp only [entOk, Bool.and_eq_true, decide_eq_true_eq] at h
  exact h.1.1.1.1.1.2
theorem after_of {a x : ENT} (hl : lessK a.key x.key = true) (ha : entOk a = true) (hx : entOk x = true) (hm : meetsE x a = false) : afterE a x = true := by
  have s1 := ent_span ha
  have s2 := ent_span hx
  rw [afterE, hl, Bool.true_and, Bool.not_eq_true', Bool.and_eq_false_iff, decide_eq_false_iff_not, decide_eq_false_iff_not]
  by_cases e : a.key.1 = x.key.1
  · right
    intro c
    unfold lessK at hl
    rw [Bool.or_eq_true, decide_eq_true_eq, Bool.and_eq_true, decide_eq_true_eq, decide_eq_true_eq] at hl
    have h2 : a.key.2 < x.key.2 := hl.elim (fun q => by omega) (fun q => q.2)
    have : meetsE x a = true := by
      rw [meetsE, decide_eq_true e.symm, decide_eq_true c, decide_eq_true (show a.key.2 ≤ x.fin by omega)]; rfl
    rw [this] at hm; cases hm
  · exact .inl e
theorem after_of' {a x : ENT} (hl : lessK x.key a.key = true) (ha : entOk a = true) (hx : entOk x = true) (hm : meetsE x a = false) : afterE x a = true := by
  have s1 := ent_span ha
  have s2 := ent_span hx
  rw [afterE, hl, Bool.true_and, Bool.not_eq_true', Bool.and_eq_false_iff, decide_eq_false_iff_not, decide_eq_false_iff_not]
  by_cases e : x.key.1 = a.key.1
  · right
    intro c
    unfold lessK at hl
    rw [Bool.or_eq_true, decide_eq_true_eq, Bool.and_eq_true, decide_eq_true_eq, decide_eq_true_eq] at hl
    have h2 : x.key.2 < a.key.2 := hl.elim (fun q => by omega) (fun q => q.2)
    have : meetsE x a = true := by
      rw [meetsE, decide_eq_true e, decide_eq_true (show x.key.2 ≤ a.fin by omega), decide_eq_true c]; rfl
    rw [this] at hm; cases hm
  · exact .inl e
theorem chk_spec {E : List ENT} {x : ENT} (h : chkE E x = 0) : (∀ y ∈ E, y.key ≠ x.key) ∧ ∀ y ∈ E, meetsE x y = false := by
  rw [chkE] at h
  split at h
  · cases h
  · rename_i h1
    split at h
    · cases h
    · rename_i h2
      rw [Bool.not_eq_true, List.any_eq_false] at h1 h2
      exact ⟨fun y hy c => h1 y hy (decide_eq_true c), fun y hy => by
        have := h2 y hy
        cases hm : meetsE x y with
        | true => exact absurd hm this
        | false => rfl⟩
/-- an entry more among entries that rise: they rise yet -/
theorem ins_ord {E : List ENT} {x : ENT} (h : ordE E) (hx : entOk x = true) (hR : entR x) (hc : chkE E x = 0) : ordE (insE E x) := by
  obtain ⟨hk, hm⟩ := chk_spec hc
  have e : E.takeWhile (fun y => !lessK x.key y.key) ++ E.dropWhile (fun y => !lessK x.key y.key) = E := List.takeWhile_append_dropWhile
  obtain ⟨A, hA⟩ : ∃ A, A = E.takeWhile (fun y => !lessK x.key y.key) := ⟨_, rfl⟩
  obtain ⟨B, hB⟩ : ∃ B, B = E.dropWhile (fun y => !lessK x.key y.key) := ⟨_, rfl⟩
  rw [insE, ← hA, ← hB]
  rw [← hA, ← hB] at e
  have hAl : ∀ a ∈ A, lessK x.key a.key = false := fun a ha => by
    rw [hA] at ha
    have : ∀ (l : List ENT), a ∈ l.takeWhile (fun y => !lessK x.key y.key) → (!lessK x.key a.key) = true := by
      intro l
      induction l with
      | nil => intro q; cases q
      | cons b l ih =>
        intro q
        rw [List.takeWhile_cons] at q
        split at q
        · rename_i hb
          rcases List.mem_cons.1 q with rfl | q
          · exact hb
          · exact ih q
        · cases q
    have := this E ha
    cases hl : lessK x.key a.key with
    | false => rfl
    | true => rw [hl] at this; cases this
  have hBl : ∀ b ∈ B, lessK x.key b.key = true := by
    have hp := h.1
    rw [← e, List.pairwise_append] at hp
    have hp2 := hp.2.1
    cases hBc : B with
    | nil => intro b hb; cases hb
    | cons b0 B' =>
      have h0 : lessK x.key b0.key = true := by
        have hd : ∀ (l : List ENT), l.dropWhile (fun y => !lessK x.key y.key) = b0 :: B' → (!lessK x.key b0.key) = false := by
          intro l
          induction l with
          | nil => intro q; cases q
          | cons b l ih =>
            intro q
            rw [List.dropWhile_cons] at q
            split at q
            · exact ih q
            · rename_i hb
              injection q with q1 q2
              rw [← q1]
              exact Bool.eq_false_iff.2 hb
        have := hd E (hB.symm.trans hBc)
        cases hl : lessK x.key b0.key with
        | true => rfl
        | false => rw [hl] at this; cases this
      rw [hBc, List.pairwise_cons] at hp2
      intro b hb
      rcases List.mem_cons.1 hb with rfl | hb
      · exact h0
      · exact lessK_trans h0 (after_less (hp2.1 b hb))
  have hAE : ∀ a ∈ A, a ∈ E := fun a ha => by rw [← e]; exact List.mem_append_left _ ha
  have hBE : ∀ b ∈ B, b ∈ E := fun b hb => by rw [← e]; exact List.mem_append_right _ hb
  have hp := h.1
  rw [← e, List.pairwise_append] at hp
  refine ⟨?_, fun z hz => ?_⟩
  · rw [List.pairwise_append]
    refine ⟨hp.1, List.pairwise_cons.2 ⟨fun b hb => after_of' (hBl b hb) (h.2 b (hBE b hb)).1 hx (hm b (hBE b hb)), hp.2.1⟩, fun a ha b hb => ?_⟩
    rcases List.mem_cons.1 hb with rfl | hb
    · exact after_of (lessK_tot (hAl a ha) (fun c => hk a (hAE a ha) c.symm)) (h.2 a (hAE a ha)).1 hx (hm a (hAE a ha))
    · exact hp.2.2 a ha b hb
  · rcases List.mem_append.1 hz with hz | hz
    · exact h.2 z (hAE z hz)
    · rcases List.mem_cons.1 hz with rfl | hz
      · exact ⟨hx, hR⟩
      · exact h.2 z (hBE z hz)
/-- all can be read -/
theorem tk_wkG {S : DS} {k : Nat} {mu : Nat → Nat} (hk : k ≤ 512) : ∀ (h m : Nat) (a : Int), tkG S k mu h m a → wkG S h a
  | 0, _, _, g => g.elim
  | h + 1, m, a, g => by
    obtain ⟨⟨p, hp, hp2⟩, g1, g2, g3, ⟨g4, g5, g6⟩, g7, g8⟩ := g
    refine ⟨by omega, g1, ?_, ?_, fun d hd => tk_wkG hk h (mu h) d (g7 d hd)⟩
    · by_cases h0 : h = 0
      · rw [decide_eq_true h0] at g6 ⊢
        have : (rdN S a true).E.length ≤ 7 := g6
        omega
      · rw [decide_eq_false h0] at g3 ⊢
        have : (rdN S a false).E = [] := g3.1
        rw [this]; exact Nat.zero_le _
    · by_cases h0 : h = 0
      · rw [decide_eq_true h0] at g3 ⊢
        have : (rdN S a true).D = [] := g3.2
        rw [this]; exact Nat.zero_le _
      · rw [decide_eq_false h0] at g6 ⊢
        have : (rdN S a false).D.length ≤ 16 := g6
        omega
/-- a page bears no more than seven entries -/
theorem tk_len {S : DS} {k : Nat} {mu : Nat → Nat} : ∀ (h m : Nat) (a : Int), tkG S k mu h m a → (wkE S h a).length ≤ 7 * (pgN S h a).length
  | 0, _, _, g => g.elim
  | h + 1, m, a, g => by
    obtain ⟨_, g1, g2, g3, ⟨g4, g5, g6⟩, g7, g8⟩ := g
    have hs : ∀ D : List Int, (∀ d ∈ D, tkG S k mu h (mu h) d) → (D.flatMap (wkE S h)).length ≤ 7 * (D.flatMap (pgN S h)).length := by
      intro D
      induction D with
      | nil => intro _; exact Nat.zero_le _
      | cons d D ih =>
        intro hd
        have h1 := tk_len h (mu h) d (hd d (List.mem_cons_self ..))
        have h2 := ih (fun z hz => hd z (List.mem_cons_of_mem _ hz))
        rw [List.flatMap_cons, List.flatMap_cons, List.length_append, List.length_append]; omega
    have h1 := hs _ g7
    have h2 : (rdN S a (decide (h = 0))).E.length ≤ 7 := by
      by_cases h0 : h = 0
      · rw [decide_eq_true h0] at g6 ⊢; exact g6
      · rw [decide_eq_false h0] at g3 ⊢
        have : (rdN S a false).E = [] := g3.1
        rw [this]; exact Nat.zero_le _
    rw [wkE, pgN, List.length_append, List.length_cons]; omega
end Go.Proofs.YtcglabmlhljkmaaGreat
end
section
/- tree: an entry more behind all others: what is asked of a tree, and the tree that comes of it. -/
namespace Go.Proofs.YtcglabmlhljkmaaGreat
open Go Go.RowKit Go.Gv
set_option linter.unusedVariables false
set_option linter.unusedSimpArgs false

theorem idx_last {E : List ENT} {x : ENT} (h : ∀ y ∈ E, lessK x.key y.key = false) : idxE E x.key = E.length := by
  have h1 := idxGo_eq E x (E.length + 1) 0 rfl (Nat.zero_le _)
  rw [List.drop_zero, Nat.zero_add] at h1
  have h2 := (tw_left (p := fun y : ENT => !lessK x.key y.key) (A := E) (B := []) (fun a ha => by rw [h a ha]; rfl)).1
  rw [List.append_nil, List.takeWhile_nil, List.append_nil] at h2
  rw [idxE, h1, h2]
theorem ents_entR {S : DS} {h : Nat} {xs : List ND3} (ho : ordE (entsX S h xs)) : ∀ y ∈ xs, ∀ e ∈ y.E, entR e := fun y hy e he =>
  (ho.2 e (List.mem_flatMap.2 ⟨y, hy, by rw [entX]; exact List.mem_append_left _ he⟩)).2
set_option maxHeartbeats 4000000 in
theorem in_G {k : Nat} {mu : Nat → Nat} {O : List Nat} {x : ENT} (hmu : ∀ h, mu (h + 1) ≤ limN h) : ∀ (h m : Nat) (v : VS) (a : Int) (U R : List Nat), VG k U O v → tkG v.S k mu (h + 1) m a → U.Perm (pgN v.S (h + 1) a ++ R) → ordE (insE (wkE v.S (h + 1) a) x) →
    (∀ y ∈ wkE v.S (h + 1) a, lessK x.key y.key = false) → v.S.W.length + 8 * h ≤ 700000 → inG (h + 1) v a x
  | 0, m, v, a, U, R, hv, g, hU, ho, has, hW => by
    have hk512 := hv.k8.2
    have hwg := tk_wkG hv.k8.2 (0 + 1) m a g
    obtain ⟨⟨p, hp, hp2⟩, g1, g2, g3, ⟨g4, g5, g6⟩, g7, g8⟩ := g
    have hd1 : decide ((0 : Nat) = 0) = true := rfl
    obtain ⟨hK, hD⟩ := id g3
    rw [hd1] at g1
    have hD' : (rdN v.S a true).D = [] := hD
    have hwk : wkE v.S (0 + 1) a = (rdN v.S a true).E := by
      show (rdN v.S a true).E ++ (rdN v.S a true).D.flatMap _ = _
      rw [hD', List.flatMap_nil, List.append_nil]
    have hpg : pgN v.S (0 + 1) a = [p] := by
      show a.toNat :: (rdN v.S a true).D.flatMap _ = [p]
      rw [hD', hp]; rfl
    rw [hpg] at hU
    have hU : U.Perm (p :: R) := hU
    obtain ⟨v', e1, e2, hv'⟩ := (hv.perm hU).give
    rw [← hp] at e1
    rw [hwk] at has
    refine ⟨⟨by omega, by omega, g1, g2, g3, hwg.2.2.1, hwg.2.2.2.1, by rw [e1]⟩, fun _ => idx_last has, fun c => absurd rfl c⟩
  | h + 1, m, v, a, U, R, hv, g, hU, ho, has, hW => by
    have hk512 := hv.k8.2
    have hwg := tk_wkG hv.k8.2 (h + 1 + 1) m a g
    obtain ⟨⟨p, hp, hp2⟩, g1, g2, g3, ⟨g4, g5, g6⟩, g7, g8⟩ := g
    have g3' := g3
    have g2' := g2
    have hd1 : decide (h + 1 = 0) = false := rfl
    rw [hd1] at g1 g3 g4 g5 g6 g7 g8
    obtain ⟨hE, hKD⟩ := g3
    obtain ⟨N, hN⟩ : ∃ N, N = rdN v.S a false := ⟨_, rfl⟩
    have hpg : pgN v.S (h + 1 + 1) a = p :: N.D.flatMap (pgN v.S (h + 1)) := by
      show a.toNat :: (rdN v.S a false).D.flatMap _ = _
      rw [hN, hp]; rfl
    have hE' : (rdN v.S a false).E = [] := hE
    have hwk : wkE v.S (h + 1 + 1) a = N.D.flatMap (wkE v.S (h + 1)) := by
      show (rdN v.S a false).E ++ (rdN v.S a false).D.flatMap _ = _
      rw [hE', hN, List.nil_append]
    rw [hpg] at hU
    have hU : U.Perm (p :: (N.D.flatMap (pgN v.S (h + 1)) ++ R)) := hU
    obtain ⟨v1, e1, e2, hv1⟩ := (hv.perm hU).give
    rw [← hp] at e1
    rw [hwk] at ho has
    have g7' := g7
    have g8' := g8
    have g4' := g4
    rw [← hN] at g7' g8' g4'
    have hDl : 0 < N.D.length := g4'
    obtain ⟨d, hsp, hdq, hql, hA, hC⟩ := child_sides (x := x) g7' g8' hDl (ho.sub (insE_sub _ _))
    obtain ⟨q, hq⟩ : ∃ q, q = childN N.K x.key := ⟨_, rfl⟩
    rw [← hq] at hsp hdq hql hA hC
    obtain ⟨D1, hD1⟩ : ∃ D1, D1 = N.D.take q := ⟨_, rfl⟩
    obtain ⟨D2, hD2⟩ : ∃ D2, D2 = N.D.drop (q + 1) := ⟨_, rfl⟩
    rw [← hD1, ← hD2] at hsp
    rw [← hD1] at hA
    rw [← hD2] at hC
    have hdm : d ∈ N.D := by rw [hsp]; exact List.mem_append_right _ (List.mem_cons_self ..)
    have hm2 : ∀ z ∈ D2, z ∈ N.D := fun z hz => by rw [hsp]; exact List.mem_append_right _ (List.mem_cons_of_mem _ hz)
    have hlast : q + 1 = N.D.length := by
      cases hc : D2 with
      | nil =>
        have hl : D2.length = N.D.length - (q + 1) := by rw [hD2, List.length_drop]
        rw [hc] at hl
        have hl' : (0 : Nat) = N.D.length - (q + 1) := hl
        omega
      | cons z D3 =>
        have hz : z ∈ D2 := by rw [hc]; exact List.mem_cons_self ..
        have hne := tk_ne (h + 1) (mu (h + 1)) z (g7' z (hm2 z hz))
        cases hw : wkE v.S (h + 1) z with
        | nil => exact absurd hw hne
        | cons e l =>
          have he : e ∈ wkE v.S (h + 1) z := by rw [hw]; exact List.mem_cons_self ..
          have h1 := hC e (List.mem_flatMap.2 ⟨z, hz, he⟩)
          have h2 := has e (List.mem_flatMap.2 ⟨z, hm2 z hz, he⟩)
          rw [h1] at h2; cases h2
    have hEs : N.D.flatMap (wkE v.S (h + 1)) = D1.flatMap (wkE v.S (h + 1)) ++ (wkE v.S (h + 1) d ++ D2.flatMap (wkE v.S (h + 1))) := by
      conv => lhs; rw [hsp]
      rw [List.flatMap_append, List.flatMap_cons]
    have hPs : N.D.flatMap (pgN v.S (h + 1)) = D1.flatMap (pgN v.S (h + 1)) ++ (pgN v.S (h + 1) d ++ D2.flatMap (pgN v.S (h + 1))) := by
      conv => lhs; rw [hsp]
      rw [List.flatMap_append, List.flatMap_cons]
    rw [hEs, insE_app hA hC] at ho
    obtain ⟨Rd, hRd⟩ : ∃ Rd, Rd = D1.flatMap (pgN v.S (h + 1)) ++ (D2.flatMap (pgN v.S (h + 1)) ++ R) := ⟨_, rfl⟩
    have hU1 : (N.D.flatMap (pgN v.S (h + 1)) ++ R).Perm (pgN v.S (h + 1) d ++ Rd) := by
      rw [hPs, hRd, List.append_assoc, List.append_assoc]
      exact perm3 _ _ _
    have hasd : ∀ y ∈ wkE v.S (h + 1) d, lessK x.key y.key = false := fun y hy => has y (List.mem_flatMap.2 ⟨d, hdm, hy⟩)
    have ih := in_G (x := x) hmu h (mu (h + 1)) v1 d _ Rd hv1 (by rw [e2]; exact g7' d hdm) (by rw [e2]; exact hU1) (by rw [e2]; exact insE_ord_sub ho) (by rw [e2]; exact hasd) (by rw [e2]; omega)
    have isp := in_spec (x := x) hmu h (mu (h + 1)) v1 d _ Rd (hmu h) hv1 (by rw [e2]; exact g7' d hdm) (by rw [e2]; exact hU1) (by rw [e2]; exact insE_ord_sub ho)
    have iok := inN_ok (h + 1) d x hv1.ok
    refine ⟨⟨by omega, by omega, g1, g2', g3', hwg.2.2.1, hwg.2.2.2.1, by rw [e1]⟩, fun c => absurd c (Nat.succ_ne_zero h), fun _ => ?_⟩
    rw [← hN, ← hq, hdq, e1]
    dsimp only
    refine ⟨hlast, ih, iok, fun hz => ?_⟩
    rcases isp with i | ⟨h5, _⟩
    · have hw := i.W
      rw [e2] at hw
      refine ⟨by have := i.len; omega, by have := i.len; omega, by have := i.len; omega, ents_entR (S := (inN (h + 1) v1 d x).1.S) (h := h) (by rw [i.ents, e2]; exact insE_ord_sub ho)⟩
    · have hz' : (inN (h + 1) v1 d x).2.2 = 0 := hz
      rw [h5] at hz'; cases hz'
end Go.Proofs.YtcglabmlhljkmaaGreat
end
section
/- tree: an entry more, all of it: the tree that comes of it. -/
namespace Go.Proofs.YtcglabmlhljkmaaGreat
open Go Go.RowKit Go.Gv
set_option linter.unusedVariables false
set_option linter.unusedSimpArgs false

theorem rmin_lim (g : Nat) : rmin (g + 1) ≤ limN g := by
  rw [rmin, limN]
  by_cases h : g = 0
  · rw [if_pos (by omega), if_pos h]; decide
  · rw [if_neg (by omega), if_neg h]; decide
theorem one_okX (S : DS) (k : Nat) (mu : Nat → Nat) (x : ENT) : okX S k mu 0 ⟨[x], [], []⟩ := ⟨⟨rfl, rfl⟩, Nat.le_refl 1, (fun d hd => by cases hd), rfl⟩
theorem first_spec {k : Nat} {mu : Nat → Nat} {O R : List Nat} {v : VS} {x : ENT} (hmu : ∀ h, mu (h + 1) ≤ limN h) (hv : VG k R O v) (ho : ordE [x]) :
    roG 1 true v [⟨[x], [], []⟩] 1 ∧ ((∃ v' t H, roN 1 true v [⟨[x], [], []⟩] 1 = (v', (((t : Nat) : Int), H), 0) ∧ TI k mu O R v' (t : Int) H [x] ∧ v'.S.W.length ≤ v.S.W.length + 12 ∧ same v.S v'.S (R ++ O) ∧ 1 ≤ H)
      ∨ ((roN 1 true v [⟨[x], [], []⟩] 1).2.2 = 5 ∧ ¬ Fre k R O 3)) := by
  have hd : decide ((0 : Nat) = 0) = true := rfl
  have hp : pagsX v.S 0 [⟨[x], [], []⟩] = [] := rfl
  have he : entsX v.S 0 [⟨[x], [], []⟩] = [x] := rfl
  have h := ro_spec (k := k) (mu := mu) (O := O) (U := R) (R := R) (h := 0) (v := v) (xs := [⟨[x], [], []⟩]) (hmu 0) hv (by rw [hp]; exact List.Perm.refl _) (fun z hz => by
    rw [List.mem_singleton.1 hz]
    exact ⟨one_okX v.S k mu x, by show rmin 1 ≤ 1; decide, by show 1 ≤ 7; decide⟩) (by rw [he]; exact ho) ⟨Nat.le_refl 1, by show 1 ≤ 2; decide⟩ (fun c => by cases c) (by decide)
  rw [hd, he] at h
  refine ⟨h.1, ?_⟩
  rcases h.2 with c | ⟨c1, c2⟩
  · exact .inl c
  · exact .inr ⟨c1, c2.elim id (fun q => by cases q)⟩
/-- an entry more: the tree that comes of it -/
theorem i_spec {k : Nat} {mu : Nat → Nat} {O R : List Nat} {v : VS} {a : Int} {h : Nat} {E : List ENT} {x : ENT} (hmu : ∀ h, mu (h + 1) ≤ limN h) (ti : TI k mu O R v a h E) (hx : entOk x = true) (hR : entR x) (hc : chkE E x = 0) :
    (∃ v' t H, iN v a h x = (v', (((t : Nat) : Int), H), 0) ∧ TI k mu O R v' (t : Int) H (insE E x) ∧ v'.S.W.length ≤ v.S.W.length + 60 ∧ same v.S v'.S (R ++ O) ∧ 1 ≤ H)
    ∨ ((iN v a h x).2.2 = 5 ∧ (¬ Fre k (pgN v.S h a ++ R) O (2 * h + 3) ∨ h = 5)) := by
  have hio := ins_ord ti.ord hx hR hc
  have hv := ti.vg
  rw [iN, ti.ents, hc, if_neg (by decide)]
  cases h with
  | zero =>
    have hE : E = [] := ti.ents.symm
    subst hE
    have hins : insE [] x = [x] := rfl
    rw [hins] at hio ⊢
    rw [if_pos rfl]
    rcases (first_spec (mu := mu) hmu (O := O) (R := R) hv hio).2 with ⟨v', t, H, e, ti', hW, hsm, hH⟩ | ⟨e5, hn⟩
    · exact .inl ⟨v', t, H, e, ti', by omega, hsm, hH⟩
    · exact .inr ⟨e5, .inl hn⟩
  | succ g =>
    rw [if_neg (Nat.succ_ne_zero g)]
    have hdd : decide (g + 1 = 1) = decide (g = 0) := decide_eq_decide.2 (by omega)
    rw [hdd]
    have tg := ti.g.resolve_left (Nat.succ_ne_zero g)
    rcases in_spec (x := x) hmu g (rmin (g + 1)) v a _ R (rmin_lim g) hv tg (List.Perm.refl _) (by rw [ti.ents]; exact hio) with i | ⟨h5, hn⟩
    · obtain ⟨V, hV⟩ : ∃ V, V = inN (g + 1) v a x := ⟨_, rfl⟩
      rw [← hV] at i ⊢
      rw [if_pos i.e]
      obtain ⟨U', hv', hU', hfr⟩ := i.vg
      have hr := ro_spec (hmu g) hv' hU' i.ok (by rw [i.ents, ti.ents]; exact hio) i.len i.two ti.h5
      rw [i.ents, ti.ents] at hr
      have hWi := i.W
      have h5 := ti.h5
      rcases hr.2 with ⟨v', t, H, e, ti', hW, hsm, hH⟩ | ⟨e5, hn⟩
      · exact .inl ⟨v', t, H, e, ti', by omega, i.sm.trans hsm, hH⟩
      · refine .inr ⟨e5, ?_⟩
        rcases hn with hn | hn
        · exact .inl (fun c => hn (hfr 3 (c.le (by omega))))
        · exact .inr (by omega)
    · rw [if_neg (by rw [h5]; decide)]
      exact .inr ⟨h5, .inl (fun c => hn (c.le (by omega)))⟩
/-- an entry more behind all others: what is asked -/
theorem iG_of {k : Nat} {mu : Nat → Nat} {O R : List Nat} {v : VS} {a : Int} {h : Nat} {E : List ENT} {x : ENT} (hmu : ∀ h, mu (h + 1) ≤ limN h) (ti : TI k mu O R v a h E) (hx : entOk x = true) (hR : entR x) (has : ∀ y ∈ E, lessK x.key y.key = false) (hW : v.S.W.length ≤ 600000) : iG v a h x := by
  have hv := ti.vg
  have h5 := ti.h5
  have hlen : (wkE v.S h a).length ≤ 100000 := by
    rcases ti.g with h0 | tg
    · subst h0; exact Nat.zero_le _
    · have h1 := tk_len h (rmin h) a tg
      have h2 := hv.m.free
      have h3 := hv.k8.2
      rw [List.length_append] at h2
      omega
  refine ⟨⟨h5, ti.g.imp id (fun tg => tk_wkG hv.k8.2 h (rmin h) a tg), hlen, by omega, hx, hR⟩, fun hc => ?_⟩
  rw [ti.ents] at hc
  have hio := ins_ord ti.ord hx hR hc
  cases h with
  | zero =>
    have hE : E = [] := ti.ents.symm
    subst hE
    exact ⟨fun _ => (first_spec (mu := mu) hmu (O := O) (R := R) hv hio).1, fun c => absurd rfl c⟩
  | succ g =>
    refine ⟨fun c => absurd c (Nat.succ_ne_zero g), fun _ => ?_⟩
    have hdd : decide (g + 1 = 1) = decide (g = 0) := decide_eq_decide.2 (by omega)
    rw [hdd]
    have tg := ti.g.resolve_left (Nat.succ_ne_zero g)
    refine ⟨in_G (x := x) hmu g (rmin (g + 1)) v a _ R hv tg (List.Perm.refl _) (by rw [ti.ents]; exact hio) (by rw [ti.ents]; exact has) (by omega), inN_ok (g + 1) a x hv.ok, fun hz => ?_⟩
    rcases in_spec (x := x) hmu g (rmin (g + 1)) v a _ R (rmin_lim g) hv tg (List.Perm.refl _) (by rw [ti.ents]; exact hio) with i | ⟨h5, hn⟩
    · obtain ⟨U', hv', hU', hfr⟩ := i.vg
      have hoi : ordE (entsX (inN (g + 1) v a x).1.S g (inN (g + 1) v a x).2.1) := by rw [i.ents, ti.ents]; exact hio
      have hr := ro_spec (hmu g) hv' hU' i.ok hoi i.len i.two ti.h5
      have hWi := i.W
      have hl := i.len
      exact ⟨by omega, by omega, ents_entR hoi, hr.1⟩
    · rw [h5] at hz; cases hz
end Go.Proofs.YtcglabmlhljkmaaGreat
end
section
/- tree: what an entry more leaves as it is, in plain terms. -/
namespace Go.Proofs.YtcglabmlhljkmaaGreat
open Go Go.RowKit Go.Gv
set_option linter.unusedVariables false
set_option linter.unusedSimpArgs false

/-- generation, pages in use ahead, and image as they were -/
def keepV (v v' : VS) : Prop := v'.gen = v.gen ∧ v'.old = v.old ∧ v'.S.A = v.S.A
theorem keepV.rfl {v : VS} : keepV v v := ⟨Eq.refl _, Eq.refl _, Eq.refl _⟩
theorem keepV.trans {v v' v'' : VS} (h : keepV v v') (h' : keepV v' v'') : keepV v v'' := ⟨h'.1.trans h.1, h'.2.1.trans h.2.1, h'.2.2.trans h.2.2⟩
end Go.Proofs.YtcglabmlhljkmaaGreat
end
section
/- txn: texts of pages, in plain terms. -/
namespace Go.Proofs.YtcglabmlhljkmaaGreat
open Go Go.RowKit Go.Gv
set_option linter.unusedVariables false
set_option linter.unusedSimpArgs false

/-- the pages' text from one page on -/
def textAt (V : List UInt8) (t n : Nat) : List UInt8 := (V.drop (t * 256)).take (n * 256)
theorem textAt_succ (V : List UInt8) (t n : Nat) : textAt V t (n + 1) = textAt V t n ++ pgAt V (t + n) := by
  rw [textAt, textAt, Nat.add_mul, List.take_add, List.drop_drop, pgAt, Nat.add_mul, Nat.one_mul]
theorem textAt_same {V V' : List UInt8} {t : Nat} : ∀ n, (∀ p ∈ runL t n, pgAt V' p = pgAt V p) → textAt V' t n = textAt V t n
  | 0, _ => by rw [textAt, textAt, Nat.zero_mul, List.take_zero, List.take_zero]
  | n + 1, h => by
    rw [textAt_succ, textAt_succ, textAt_same n (fun p hp => h p (by
      obtain ⟨q1, q2⟩ := runL_mem.1 hp
      exact runL_mem.2 ⟨q1, by omega⟩)), h (t + n) (runL_mem.2 ⟨by omega, by omega⟩)]
end Go.Proofs.YtcglabmlhljkmaaGreat
end
section
/- super: what its functions compute, in plain terms. -/
namespace Go.Gv
set_option linter.unusedVariables false
set_option linter.unusedSimpArgs false

structure SP where
  gen : Nat
  addr : Int
  height : Int
  bitmap : Int
  pages : Int
def okS (s : SP) : Bool :=
  decide (s.gen ≠ 0) && (decide (8 ≤ s.pages) && (decide (s.pages ≤ 512) && ((decide (2 ≤ s.bitmap) && decide (s.bitmap < s.pages)) &&
    (if s.height = 0 then decide (s.addr = 0) else decide (0 < s.height) && (decide (s.height ≤ 5) && ((decide (2 ≤ s.addr) && decide (s.addr < s.pages)) && decide (s.addr ≠ s.bitmap)))))))
def putS (s : SP) : List UInt8 := bigB s.gen 8 ++ bigB s.addr.toNat 2 ++ [UInt8.ofNat s.height.toNat] ++ bigB s.bitmap.toNat 2 ++ bigB s.pages.toNat 2
end Go.Gv
end
section
/- super: supers of a disk, in plain terms. -/
namespace Go.Proofs.YtcglabmlhljkmaaGreat
open Go Go.RowKit Go.Gv
set_option linter.unusedVariables false
set_option linter.unusedSimpArgs false

/-- a super's page -/
def pgS (s : SP) : PG := ⟨83, ((s.gen % 2 : Nat) : Int), s.gen, putS s⟩
/-- a super that is written -/
def wrS (S : DS) (s : SP) : DS × Nat := if okS s = true then wrPg S (pgS s) else (S, 1)
end Go.Proofs.YtcglabmlhljkmaaGreat
end
section
/- super: supers that are written in turn, in plain terms. -/
namespace Go.Proofs.YtcglabmlhljkmaaGreat
open Go Go.RowKit Go.Gv
set_option linter.unusedVariables false
set_option linter.unusedSimpArgs false

/-- a page that says nothing, or a super that is older -/
def Old1 (S : DS) (n : Nat) (P : Int) (a : Nat) : Prop :=
  (getP (pgAt S.V a)).2 ≠ 0 ∨ ∃ s : SP, okS s = true ∧ s.gen < 18446744073709551616 ∧ a = s.gen % 2 ∧ s.gen < n ∧ s.pages = P ∧ pgAt S.V a = putP (pgS s)
def InvS (S : DS) (n : Nat) (P : Int) : Prop := ∀ a, a < 2 → Old1 S n P a
end Go.Proofs.YtcglabmlhljkmaaGreat
end
section
/- Maps as bytes, as plain functions. -/
namespace Go.Gv
set_option linter.unusedSimpArgs false
set_option linter.unusedVariables false

def orBit (l : List UInt8) (i : Nat) : List UInt8 := l.set (2 + i / 8) (l.getD (2 + i / 8) 0 ||| (1 <<< UInt8.ofNat (i % 8)))
def headB (p : Nat) : List UInt8 := [UInt8.ofNat (p / 256), UInt8.ofNat p] ++ List.replicate ((p + 7) / 8) 0
def putTo (m : BM) : Nat → List UInt8
  | 0 => headB m.p.toNat
  | i + 1 => if useAt m.u i then orBit (putTo m i) i else putTo m i
def putM (m : BM) : List UInt8 := if rightM m then putTo m 512 else []
theorem headB_length (p : Nat) : (headB p).length = 2 + (p + 7) / 8 := by simp [headB]; omega
theorem putTo_length (m : BM) : ∀ i, (putTo m i).length = 2 + (m.p.toNat + 7) / 8
  | 0 => headB_length _
  | i + 1 => by
    rw [putTo]; split
    · rw [orBit, List.length_set, putTo_length m i]
    · exact putTo_length m i
end Go.Gv
end
section
/- A disk as one atom: Flush, Image, Pages, Load, Crash. -/
namespace Go.Proofs.YtcglabmlhljkmaaGreat
open Go Go.RowKit Go.Gv
set_option linter.unusedVariables false
set_option linter.unusedSimpArgs false

/-- all that waits is there to stay -/
def DS.fl (S : DS) : DS × Nat := if S.off = true then (S, 2) else if S.till = 0 then ({ S with off := true, till := -1 }, 2) else (⟨S.V, [], false, stopT S.till⟩, 0)
theorem disk_PagesD (p : Nat) (S : DS) (hS : S.ok) : Gv.Spec Tryz.prog 74 #[.pointer (some ⟨p, 0, none⟩)] [DSK p S] (fun r H' => r = .int .i64 ((S.A.length / 256 : Nat) : Int) ∧ H' = [DSK p S]) := fun w0 w H hw => by
  obtain ⟨a, vw, W, hW, h1⟩ := dsk_open hw
  refine (disk_Pages p a S.A.length vw S.off S.till hS.1 w0 w _ h1).mono ?_
  intro e w' he
  cases e with
  | returned v =>
    obtain ⟨H', ⟨hr, rfl⟩, h2⟩ := he
    exact ⟨_, ⟨hr, rfl⟩, dsk_close hW h2⟩
  | panicked c => exact he.elim
  | outgrown => exact he.elim
/-- a disk of an image -/
def DS.of (l : List UInt8) : DS := ⟨l, [], false, -1⟩
/-- power goes, and is there again -/
def DS.cr (S : DS) (F : List (Bool × UInt8)) : DS := ⟨crashM S.A (S.W.map fun x => ⟨x.1, undef, x.2⟩) F, [], false, -1⟩
end Go.Proofs.YtcglabmlhljkmaaGreat
end
section
/- txn: what is there to stay, in plain terms. -/
namespace Go.Proofs.YtcglabmlhljkmaaGreat
open Go Go.RowKit Go.Gv
set_option linter.unusedVariables false
set_option linter.unusedSimpArgs false

/-- a bitmap's page -/
def mpP (a : Int) (g : Nat) (m : BM) : PG := ⟨66, a, g, putM m⟩
theorem mpP_ok {a k : Nat} {g : Nat} {m : BM} {U : List Nat} (i : Inv k m U) (h : 8 ≤ k ∧ k ≤ 512) (ha : a < 512) : okP (mpP (a : Int) g m) = true := by
  have h1 : knownK (mpP (a : Int) g m).k = true := (by decide : knownK 66 = true)
  have h2 : (0 : Int) ≤ (mpP (a : Int) g m).a := by show (0 : Int) ≤ (a : Int); omega
  have h3 : (mpP (a : Int) g m).a < 512 := by show (a : Int) < 512; omega
  have h4 : (mpP (a : Int) g m).b.length ≤ 238 := by
    show (putM m).length ≤ 238
    have hr := i.right h
    have hs := rightM_spec hr
    rw [putM, if_pos hr, putTo_length]
    omega
  rw [okP, h1, decide_eq_true h2, decide_eq_true h3, decide_eq_true h4]; rfl
/-- what is there to stay: a super, its map, which pages are in use -/
structure CM (k : Nat) (S : DS) (s : SP) (m : BM) (U : List Nat) : Prop where
  k8 : 8 ≤ k ∧ k ≤ 512
  on : S.on
  len : S.A.length = k * 256
  W : S.W = []
  sok : okS s = true
  pages : s.pages = (k : Int)
  gen : s.gen < 1000000000
  sup : pgAt S.V (s.gen % 2) = putP (pgS s)
  old : InvS S (s.gen + 1) (k : Int)
  mok : Inv k m U
  bit : ∃ b : Nat, s.bitmap = (b : Int) ∧ b ∈ U ∧ pgAt S.V b = putP (mpP (b : Int) s.gen m)
theorem CM.map {k : Nat} {S : DS} {s : SP} {m : BM} {U : List Nat} (c : CM k S s m U) : rdPg S s.bitmap 66 = (mpP s.bitmap s.gen m, 0) := by
  obtain ⟨b, hb, hU, hp⟩ := c.bit
  have hr := c.mok.rng b hU
  have hk := c.k8
  have hg := c.gen
  rw [hb, rdPg_on c.on b (by rw [c.len]; exact fitk hr.2), hp, get_put _ (mpP_ok c.mok c.k8 (by omega)) (by show s.gen < _; omega), if_pos ⟨rfl, rfl, rfl⟩]
/-- a view of what is there to stay -/
theorem CM.view {k : Nat} {S : DS} {s : SP} {m : BM} {U : List Nat} (c : CM k S s m U) (g : Nat) (hg : g < 18446744073709551616) : VG k U U ⟨S, g, m, m⟩ :=
  ⟨c.k8, c.on, c.len, hg, c.mok, c.mok, fun x hx => by rw [show (⟨S, g, m, m⟩ : VS).S.W = [] from c.W] at hx; cases hx⟩
/-- a commit: the map's page, the super behind it -/
def cmS (S : DS) (s : SP) (m : BM) : DS := (wrS (wrPg S (mpP s.bitmap s.gen m)).1.fl.1 s).1.fl.1
end Go.Proofs.YtcglabmlhljkmaaGreat
end
section
/- tree: Open: the walk. -/
namespace Go.Proofs.YtcglabmlhljkmaaGreat
open Go Go.RowKit Go.Gv
set_option linter.unusedVariables false
set_option linter.unusedSimpArgs false

/-- parts that stand side by side -/
def sideBy (place : Nat → Option (Nat × Nat)) : Nat → List (Nat × Value × List Value) → Prop
  | _, [] => True
  | off, x :: l => place x.1 = some (off, x.2.2.length) ∧ x.2.1.cells.toList = x.2.2 ∧ sideBy place (off + x.2.2.length) l
theorem fill_seq (place : Nat → Option (Nat × Nat)) : ∀ (l : List (Nat × Value × List Value)) (pre mid : List Value), sideBy place pre.length l → mid.length = (l.flatMap (·.2.2)).length →
    fillL place (pre ++ mid) (l.map fun x => (x.1, x.2.1)) = some (pre ++ l.flatMap (·.2.2))
  | [], pre, mid, _, h => by
    have : mid = [] := List.eq_nil_of_length_eq_zero (by simpa using h)
    rw [this]; rfl
  | x :: l, pre, mid, hs, h => by
    obtain ⟨h1, h2, h3⟩ := hs
    rw [List.flatMap_cons, List.length_append] at h
    rw [List.map_cons, fillL, h1]
    have e1 : Nat.beq x.2.1.cells.toList.length x.2.2.length = true := by rw [h2]; exact Nat.beq_refl _
    have e2 : Nat.ble (pre.length + x.2.2.length) (pre ++ mid).length = true := Nat.ble_eq_true_of_le (by rw [List.length_append]; omega)
    simp only [e1, e2, Bool.and_self, cond_true]
    rw [h2, List.take_left, List.drop_append, List.drop_eq_nil_of_le (by omega), Nat.add_sub_cancel_left, List.nil_append]
    have ih := fill_seq place l (pre ++ x.2.2) (mid.drop x.2.2.length) (by rw [List.length_append]; exact h3) (by rw [List.length_drop]; omega)
    rw [ih, List.flatMap_cons, List.append_assoc]
theorem view_fill (d : Nat) (v : VS) (hv : v.ok) :
    fillL (fun i => ([(0, 256), (256, 1), (257, 1), (258, 513), (771, 513)] : List (Nat × Nat))[i]?) (List.replicate 256 (.int .u32 0) ++ ([.pointer none, .int .u64 0, .int .i64 0] ++ (List.replicate 512 (.bool false) ++ ([.int .i64 0] ++ (List.replicate 512 (.bool false))))))
      [(0, tabV), (1, .pointer (some ⟨d, 0, none⟩)), (2, .int .u64 (v.gen : Int)), (3, bmV v.m), (4, bmV v.old)] = some (viewL d v) := by
  have h := fill_seq (fun i => ([(0, 256), (256, 1), (257, 1), (258, 513), (771, 513)] : List (Nat × Nat))[i]?)
    [(0, tabV, tabL), (1, .pointer (some ⟨d, 0, none⟩), [.pointer (some ⟨d, 0, none⟩)]), (2, .int .u64 (v.gen : Int), [.int .u64 (v.gen : Int)]), (3, bmV v.m, bmL v.m), (4, bmV v.old, bmL v.old)] []
    (List.replicate 256 (.int .u32 0) ++ ([.pointer none, .int .u64 0, .int .i64 0] ++ (List.replicate 512 (.bool false) ++ ([.int .i64 0] ++ (List.replicate 512 (.bool false)))))) ?_ ?_
  · rw [List.nil_append] at h
    refine h.trans ?_
    simp only [List.flatMap_cons, List.flatMap_nil, List.append_nil, List.nil_append, List.cons_append, viewL]
  · simp only [sideBy, tabL_length, bmL_len hv.m, bmL_len hv.o, List.length_cons, List.length_nil]
    refine ⟨rfl, ?_, rfl, rfl, rfl, rfl, rfl, ?_, rfl, ?_, trivial⟩ <;> rfl
  · simp only [List.flatMap_cons, List.flatMap_nil, List.append_nil, List.length_append, List.length_replicate, List.length_cons, List.length_nil, tabL_length, bmL_len hv.m, bmL_len hv.o]
set_option maxHeartbeats 8000000 in
theorem tree_Open (d : Nat) (v : VS) (hv : v.ok) (hm : rightM v.m = true) (ho : rightM v.old = true) (hp : v.m.p = ((v.S.A.length / 256 : Nat) : Int)) (hp2 : v.old.p = ((v.S.A.length / 256 : Nat) : Int)) :
    Gv.Spec Tryz.prog 26 #[tabV, .pointer (some ⟨d, 0, none⟩), .int .u64 (v.gen : Int), bmV v.m, bmV v.old] [DSK d v.S]
    (fun r H' => ∃ pv, r = .tuple #[.pointer (some ⟨pv, 0, none⟩), .int .i64 0] ∧ H' = [blk pv 146 (viewL d v), DSK d v.S]) := by
  refine Gv.Spec.of (fun w h0 hw => ?_)
  refine Calls.enter Tryz.func26 rfl rfl rfl hw ?_
  simp only [argSlots]
  refine Wap ?_
  refine Ws ?_
  (refine Wbx ?_; intro b5)
  refine Ws ?_
  (refine Wbx ?_; intro b8)
  refine Ws ?_
  (refine Wbx ?_; intro b9)
  refine Ws ?_
  refine Wm [blk b8 60 (bmL v.m), blk b9 60 (bmL v.old)] ?_
  refine Wq [0, 1, 2] ?_
  refine ZMb 14 false ?_
  refine Zm 3 (h := fun _ _ x => by exact Zla (cs := bmL v.m) x (hl := by exact bmL_len hv.m)) (k := ?_)
  refine Zm 4 (h := fun _ _ x => by exact Zcv (bm_Right v.m hv.m) x) (k := ?_)
  refine Wq [5, 6, 7] ?_
  refine ZMb 19 false ?_ (hi := by rw [hm]; rfl)
  refine Zm 8 (h := fun _ _ x => by exact Zla (cs := bmL v.old) x (hl := by exact bmL_len hv.o)) (k := ?_)
  refine Zm 9 (h := fun _ _ x => by exact Zcv (bm_Right v.old hv.o) x) (k := ?_)
  refine Wq [10, 11, 12] ?_
  refine ZMb 24 false ?_ (hi := by rw [ho]; rfl)
  refine Wq [13, 14, 15] ?_
  refine ZAy 16 ?_
  refine Zd (disk_PagesD d v.S hv.S) ?_
  refine Zw ?_
  refine Wq [17, 18, 19] ?_
  refine ZMb 31 false ?_ (hi := by exact decide_eq_false (fun q => q hp))
  refine Wq [20, 21, 22] ?_
  refine ZAy 23 ?_
  refine Zd (disk_PagesD d v.S hv.S) ?_
  refine Zw ?_
  refine Wq [24, 25] ?_
  refine ZMb 37 false ?_ (hi := by exact decide_eq_false (fun q => q hp2))
  refine ZE ?_
  refine Ws ?_
  refine Zla (cs := tabL) ?_ (hl := by exact tabL_length)
  refine Ws ?_
  refine Zla (cs := bmL v.m) ?_ (hl := by exact bmL_len hv.m)
  refine Ws ?_
  refine Zla (cs := bmL v.old) ?_ (hl := by exact bmL_len hv.o)
  refine Ws ?_
  refine Zbu (ys := viewL d v) ?_ (hf := by exact view_fill d v hv)
  refine Ws ?_
  (refine Wbx ?_; intro pv)
  refine Ws ?_
  exact Zfn [blk pv 146 (viewL d v), DSK d v.S] (hq := by exact ⟨pv, rfl, rfl⟩)
end Go.Proofs.YtcglabmlhljkmaaGreat
end
section
/- tree: a view's Node: the walk. -/
namespace Go.Proofs.YtcglabmlhljkmaaGreat
open Go Go.RowKit Go.Gv
set_option linter.unusedVariables false
set_option linter.unusedSimpArgs false

set_option maxHeartbeats 8000000 in
theorem view_Node (pv d : Nat) (v : VS) (a : Int) (leaf : Bool) (hv : v.ok) (hl : v.S.W.length ≤ 1000000) (ha : -1000000 ≤ a ∧ a ≤ 1000000) :
    Gv.Spec Tryz.prog 65 #[.pointer (some ⟨pv, 0, none⟩), .int .i64 a, .bool leaf] [blk pv 146 (viewL d v), DSK d v.S]
    (fun r H' => ∃ A c B e C f, r = .tuple #[ndW (rdN v.S a leaf).leaf (.slice A (rdN v.S a leaf).E.length c) (.slice B (rdN v.S a leaf).K.length e) (.slice C (rdN v.S a leaf).D.length f), .int .i64 ((rdN v.S a leaf).e : Int)]
      ∧ H' = [blk pv 146 (viewL d v), DSK d v.S, own 40 8 (.slice A (rdN v.S a leaf).E.length c) (rdN v.S a leaf).E.length (EL (rdN v.S a leaf).E), own 38 2 (.slice B (rdN v.S a leaf).K.length e) (rdN v.S a leaf).K.length (KL (rdN v.S a leaf).K), own 3 1 (.slice C (rdN v.S a leaf).D.length f) (rdN v.S a leaf).D.length (NL (rdN v.S a leaf).D)]) := by
  refine Gv.Spec.of (fun w h0 hw => ?_)
  refine Calls.enter Tryz.func65 rfl rfl rfl hw ?_
  simp only [argSlots]
  refine Wap ?_
  refine Ws ?_
  refine Zal fun b6 => ?_
  refine Ws ?_
  refine Zz 12 false ?_
  refine Wo ?_
  (with_reducible refine Tri.seq ?_)
  refine Wo ?_
  ((first | with_reducible apply Tri.seqMeet (α := Unit) (Lx := fun _ => [(0, .pointer (some ⟨pv, 0, none⟩)), (1, .int .i64 a), (2, .bool leaf), (6, .pointer (some ⟨b6, 0, none⟩)), (7, .int .i64 0), (8, .int .u8 ((kindN leaf).toNat : Int))]) (Hx := fun _ => [blk b6 125 (ndLL false (.slice none 0 0) (.slice none 0 0) (.slice none 0 0)), blk pv 146 (viewL d v), DSK d v.S, Ex h0]) | with_reducible apply TriR.seqMeet (α := Unit) (Lx := fun _ => [(0, .pointer (some ⟨pv, 0, none⟩)), (1, .int .i64 a), (2, .bool leaf), (6, .pointer (some ⟨b6, 0, none⟩)), (7, .int .i64 0), (8, .int .u8 ((kindN leaf).toNat : Int))]) (Hx := fun _ => [blk b6 125 (ndLL false (.slice none 0 0) (.slice none 0 0) (.slice none 0 0)), blk pv 146 (viewL d v), DSK d v.S, Ex h0])); rotate_left; (rintro ⟨⟩; (try dsimp only)); rotate_left)
  · cases leaf
    · refine Ws ?_
      refine Zi 8 ((kindN false).toNat : Int) ?_ (hi := by rfl)
      refine Zat (blk b6 _ _) (blk b6 125 (ndLL false (.slice none 0 0) (.slice none 0 0) (.slice none 0 0))) ?_
      exact Zrc ()
    · refine Ws ?_
      refine Zi 8 ((kindN true).toNat : Int) ?_ (hi := by rfl)
      refine Zat (blk b6 _ _) (blk b6 125 (ndLL false (.slice none 0 0) (.slice none 0 0) (.slice none 0 0))) ?_
      exact Zrc ()
  refine Wo ?_
  obtain ⟨R, hR⟩ : ∃ R, R = rdPg v.S a (kindN leaf) := ⟨_, rfl⟩
  have hrd := page_Read d v.S a (kindN leaf) hv.S hl ha
  rw [← hR] at hrd
  ((first | with_reducible apply Tri.seqMeet (α := Σ' (_ : Nat) (_ : Option Addr), Nat) (Lx := fun x => [(2, .bool leaf), (6, .pointer (some ⟨b6, 0, none⟩)), (9, .pointer (some ⟨x.1, 0, none⟩)), (10, .int .i64 (R.2 : Int))]) (Hx := fun x => [blk b6 125 (ndLL false (.slice none 0 0) (.slice none 0 0) (.slice none 0 0)), blk pv 146 (viewL d v), DSK d v.S, blk x.1 172 (pgL R.1 (.slice x.2.1 R.1.b.length x.2.2)), own 5 1 (.slice x.2.1 R.1.b.length x.2.2) R.1.b.length (B8 R.1.b), Ex h0]) | with_reducible apply TriR.seqMeet (α := Σ' (_ : Nat) (_ : Option Addr), Nat) (Lx := fun x => [(2, .bool leaf), (6, .pointer (some ⟨b6, 0, none⟩)), (9, .pointer (some ⟨x.1, 0, none⟩)), (10, .int .i64 (R.2 : Int))]) (Hx := fun x => [blk b6 125 (ndLL false (.slice none 0 0) (.slice none 0 0) (.slice none 0 0)), blk pv 146 (viewL d v), DSK d v.S, blk x.1 172 (pgL R.1 (.slice x.2.1 R.1.b.length x.2.2)), own 5 1 (.slice x.2.1 R.1.b.length x.2.2) R.1.b.length (B8 R.1.b), Ex h0])); rotate_left; (rintro ⟨b9, A, c⟩; (try dsimp only)); rotate_left)
  · refine Ws ?_
    refine Wm [blk pv 146 (viewL d v)] ?_
    refine Wq [0, 1, 2] ?_
    refine Zm 3 (h := fun _ _ x => by exact Zlg x (hv := by exact viewL_tab d v) (hl := by exact tabL_length)) (k := ?_)
    refine Wq [4, 5, 6] ?_
    refine Zm 7 (h := fun _ _ x => by exact Zl x (hv := by exact viewL_d d v)) (k := ?_)
    refine Wq [8, 9] ?_
    refine ZA2 10 14 ?_ ?_
    · refine Zcs hrd ?_
      rintro r H' ⟨A, c, rfl, rfl⟩
      refine Wap ?_
      refine Zw ?_
      refine Wq [11, 12, 13] ?_
      refine ZA 14 ?_
      refine Zal fun b9 => ?_
      refine Zw ?_
      refine ZA 15 ?_
      refine ZSa (ys := pgL R.1 (.slice A R.1.b.length c)) ?_ (hl := by exact pgL_len R.1 (.slice A R.1.b.length c)) (h1 := by exact pgL_one R.1 A _ c)
      refine Zw ?_
      refine Wq [16] ?_
      refine ZE ?_
      refine Wo ?_
      exact Zrc ⟨b9, A, c⟩
    · refine Zal fun b9 => ?_
      refine Zw ?_
      refine ZA 10 ?_
      refine Zcs hrd ?_
      rintro r H' ⟨A, c, rfl, rfl⟩
      refine Wap ?_
      refine Zw ?_
      refine Wq [11, 12, 13] ?_
      refine ZA 15 ?_
      refine ZSa (ys := pgL R.1 (.slice A R.1.b.length c)) ?_ (hl := by exact pgL_len R.1 (.slice A R.1.b.length c)) (h1 := by exact pgL_one R.1 A _ c)
      refine Zw ?_
      refine Wq [16] ?_
      refine ZE ?_
      refine Wo ?_
      exact Zrc ⟨b9, A, c⟩
  have hN : rdN v.S a leaf = if R.2 = 0 then getN leaf R.1.b else ⟨false, [], [], [], R.2⟩ := by rw [rdN, ← hR]
  by_cases hz : R.2 = 0
  · rw [if_pos hz] at hN
    rw [hN]
    refine Ws ?_
    refine Zz 30 false ?_ (hi := by rw [hz]; rfl)
    refine Ws ?_
    refine Zcr (node_GetN leaf (.slice A R.1.b.length c) R.1.b) ?_ (hpre := by exact rdw_own (v := .slice A R.1.b.length c) Wp)
    rintro r3 H3 ⟨A1, c1, B1, d1, C1, e1, rfl, rfl⟩
    refine Wap ?_
    generalize getN leaf R.1.b = G at *
    refine Ws ?_
    refine ZSa (ys := ndLL G.leaf (.slice A1 G.E.length c1) (.slice B1 G.K.length d1) (.slice C1 G.D.length e1)) ?_ (h1 := by exact ndLL_one G.leaf A1 B1 C1 _ c1 _ d1 _ e1)
    refine Ws ?_
    exact Zfn [blk pv 146 (viewL d v), DSK d v.S, own 40 8 (.slice A1 G.E.length c1) G.E.length (EL G.E), own 38 2 (.slice B1 G.K.length d1) G.K.length (KL G.K), own 3 1 (.slice C1 G.D.length e1) G.D.length (NL G.D)] (h := ResL.cons (Zra (rfl : (ndLL G.leaf (.slice A1 G.E.length c1) (.slice B1 G.K.length d1) (.slice C1 G.D.length e1)).length = 4)) (ResL.cons (Res1.tmp rfl) (ResL.nil))) (hq := by exact ⟨A1, c1, B1, d1, C1, e1, rfl, rfl⟩)
  · rw [if_neg hz] at hN
    rw [hN]
    refine Ws ?_
    refine Zz 30 true ?_ (hi := by rw [decide_eq_true]; omega)
    refine Ws ?_
    refine ZSa (ys := ndLL false (.slice none 0 0) (.slice none 0 0) (.slice none 0 0)) ?_ (h1 := by exact ndLL_one false none none none 0 0 0 0 0 0)
    refine Ws ?_
    (with_reducible apply Tri.ownNil 40 8)
    (with_reducible apply Tri.ownNil 38 2)
    (with_reducible apply Tri.ownNil 3 1)
    exact Zfn [blk pv 146 (viewL d v), DSK d v.S, own 40 8 (.slice none 0 0) 0 [], own 38 2 (.slice none 0 0) 0 [], own 3 1 (.slice none 0 0) 0 []] (h := ResL.cons (Zra (rfl : (ndLL false (.slice none 0 0) (.slice none 0 0) (.slice none 0 0)).length = 4)) (ResL.cons (Res1.tmp rfl) (ResL.nil))) (hq := by exact ⟨none, 0, none, 0, none, 0, rfl, rfl⟩)
end Go.Proofs.YtcglabmlhljkmaaGreat
end
section
/- walk: a walker's each: the walk. -/
namespace Go.Proofs.YtcglabmlhljkmaaGreat
open Go Go.RowKit Go.Gv
set_option linter.unusedVariables false
set_option linter.unusedSimpArgs false

theorem nl_get (D : List Int) (j : Nat) : (NL D)[j]? = (D[j]?).map (.int .i64) := by simp [NL]
end Go.Proofs.YtcglabmlhljkmaaGreat
end
section
/- walk: Take: the walk. -/
namespace Go.Proofs.YtcglabmlhljkmaaGreat
open Go Go.RowKit Go.Gv
set_option linter.unusedVariables false
set_option linter.unusedSimpArgs false

def rootL (a h : Int) : List Value := [.int .i64 a, .int .i64 h]
def rootV (a h : Int) : Value := .agg (rootL a h).toArray
end Go.Proofs.YtcglabmlhljkmaaGreat
end
section
/- tree: give, may, child: the walk. -/
namespace Go.Proofs.YtcglabmlhljkmaaGreat
open Go Go.RowKit Go.Gv
set_option linter.unusedVariables false
set_option linter.unusedSimpArgs false

theorem z513g : (Value.int .i64 0 :: List.replicate 512 (Value.bool false)).length = 513 := by rw [List.length_cons, List.length_replicate]
set_option maxHeartbeats 8000000 in
theorem view_give (pv d : Nat) (v : VS) (a : Int) (hv : v.ok) :
    Gv.Spec Tryz.prog 106 #[.pointer (some ⟨pv, 0, none⟩), .int .i64 a] [blk pv 146 (viewL d v)]
    (fun r H' => r = .int .i64 ((giN v a).2 : Int) ∧ H' = [blk pv 146 (viewL d (giN v a).1)]) := by
  refine Gv.Spec.of (fun w h0 hw => ?_)
  refine Calls.enter Tryz.func106 rfl rfl rfl hw ?_
  simp only [argSlots]
  refine Wap ?_
  have hg := bm_Give v.m a 1 hv.m
  obtain ⟨T, hT⟩ : ∃ T, T = giveM v.m a 1 := ⟨_, rfl⟩
  have hTl : T.1.u.length = 512 := by rw [hT]; exact giveM_length _ _ _ hv.m
  rw [← hT] at hg
  refine Ws ?_
  refine Zlg ?_ (hv := by exact viewL_m hv) (hl := by exact bmL_len hv.m)
  refine Ws ?_
  refine Zcv hg ?_
  refine Ws ?_
  refine Zal fun b5 => ?_
  refine Ws ?_
  refine ZSa (ys := bmL T.1) ?_ (hl := by exact bmL_len hTl) (hc := by exact z513g) (h1 := by exact bmL_one _)
  refine Ws ?_
  by_cases hz : T.2 = 0
  · have e : giN v a = (⟨v.S, v.gen, T.1, v.old⟩, 0) := by rw [giN, ← hT, if_pos hz]
    rw [e]
    refine Zz 17 true ?_ (hi := by rw [hz]; rfl)
    refine Ws ?_
    refine Zla (cs := bmL T.1) ?_ (hl := by exact bmL_len hTl)
    refine Ws ?_
    refine ZSg (ys := bmL T.1) ?_ (hl := by exact bmL_len hTl) (h1 := by exact bmL_one _) (hi := by rw [viewL_len hv]; omega)
    refine Zat (blk pv _ _) (blk pv 146 (viewL d ⟨v.S, v.gen, T.1, v.old⟩)) ?_ (e := by rw [viewL_set hv T.1 v.S])
    refine Ws ?_
    exact Zfn [blk pv 146 (viewL d ⟨v.S, v.gen, T.1, v.old⟩)] (hq := by exact ⟨by rw [hz]; rfl, rfl⟩)
  · have e : giN v a = (v, T.2) := by rw [giN, ← hT, if_neg hz]
    rw [e]
    refine Zz 17 false ?_ (hi := by exact decide_eq_false (by omega))
    refine Ws ?_
    exact Zfn [blk pv 146 (viewL d v)] (hq := by exact ⟨rfl, rfl⟩)
set_option maxHeartbeats 4000000 in
theorem view_may (pv : Nat) (a : Int) (h : Nat) (hh : h ≤ 5) : SpecR Tryz.prog 61 #[.pointer (some ⟨pv, 0, none⟩), rootV a (h : Int)] (fun _ => True) (fun r H' => r = .int .i64 0 ∧ H' = []) := by
  refine SpecR.of (fun w _ => ?_)
  refine Calls.enter Tryz.func61 rfl rfl rfl (St.rebase w) ?_
  simp only [argSlots]
  refine Ws ?_
  (refine Wbx ?_; intro b3)
  refine Ws ?_
  refine Zz 7 false ?_
  refine Ws ?_
  refine Zz 12 false ?_ (hi := by exact decide_eq_false (by omega))
  refine Ws ?_
  refine Zz 16 false ?_ (hi := by exact decide_eq_false (by omega))
  refine Ws ?_
  refine Zfn [] (hq := ?_)
  exact ⟨rfl, rfl⟩
set_option maxHeartbeats 8000000 in
theorem tree_child (leaf : Bool) (ev kv dv : Value) (ks : List KEY) (k : KEY) (hb : ks.length ≤ 1000000) : SpecR Tryz.prog 66 #[ndW leaf ev kv dv, .agg (keyL k).toArray] (fun w => RdW w kv ks.length (KL ks)) (fun r H' => r = .int .i64 (childN ks k : Int) ∧ H' = []) := by
  refine SpecR.of (fun w hr => ?_)
  obtain ⟨Ak, ck, rfl, _⟩ := id hr
  refine Calls.enter Tryz.func66 rfl rfl rfl (St.rebase w) ?_
  simp only [argSlots]
  refine Ws ?_
  (refine Wbx ?_; intro b2)
  refine Ws ?_
  (refine Wbx ?_; intro b3)
  refine Ws ?_
  (refine Wl (α := Σ' (i : Nat) (f : Nat), ks.length ≤ f + i ∧ i ≤ ks.length ∧ childGo ks k f i = childN ks k) (fun x => ks.length - x.1) (fun x => [(2, .pointer (some ⟨b2, 0, none⟩)), (3, .pointer (some ⟨b3, 0, none⟩)), (5, .int .i64 (x.1 : Int))]) (fun x => [blk b2 125 (ndLL leaf ev (.slice Ak ks.length ck) dv), blk b3 38 (keyL k), Ex (hp w)]) ⟨0, ks.length, Nat.le_refl _, Nat.zero_le _, rfl⟩ ?_; rintro ⟨i, f, hf, hk, hi⟩ mx hmx; (try dsimp only at hmx ⊢))
  refine Ws ?_
  refine Wm [blk b2 125 (ndLL leaf ev (.slice Ak ks.length ck) dv), blk b3 38 (keyL k), Ex (hp w)] ?_
  refine Wq [0, 1, 2, 3, 4, 5, 6] ?_
  by_cases c : i + 1 < ks.length
  · obtain ⟨g, rfl⟩ : ∃ g, f = g + 1 := ⟨f - 1, by omega⟩
    have hKl := KL_length ks
    refine ZMb 12 true ?_ (hi := by exact decide_eq_true (by omega))
    refine Zm 7 (h := fun _ _ x => by exact Zla (cs := keyL k) x (hl := by rfl)) (k := ?_)
    refine Wq [8, 9, 10, 11] ?_
    refine Zm 12 (h := fun _ _ x => by exact ZoixW (j := i + 1) x (hr := by exact rdw_ex Wp hr) (hj := by rfl) (hlt := by exact c) (hl := by omega)) (k := ?_)
    refine Zm 13 (h := fun _ _ x => by exact ZoloadAggW x (hr := by exact rdw_ex Wp hr) (hv := by exact KL_two ks (i + 1) c) (hl := by rfl)) (k := ?_)
    refine Zm 14 (h := fun _ _ x => by exact Zcv (node_Less k (ks.getD (i + 1) (0, 0))) x) (k := ?_)
    refine Wq [15, 16] ?_
    refine ZE ?_
    refine Ws ?_
    rw [childGo] at hi
    cases hq : lessK k (ks.getD (i + 1) (0, 0)) with
    | true =>
      rw [if_neg (by rw [hq]; simp)] at hi
      refine Zz 22 false ?_
      refine Ws ?_
      refine Zfn [] (hq := ?_)
      exact ⟨by rw [hi]; rfl, rfl⟩
    | false =>
      rw [if_pos ⟨c, hq⟩] at hi
      have hf' : ks.length ≤ g + (i + 1) := by omega
      have hk' : i + 1 ≤ ks.length := by omega
      refine Zz 22 true ?_
      refine Ws ?_
      refine Zi 5 ((i + 1 : Nat) : Int) ?_ (hi := by omega)
      exact Zag ⟨i + 1, g, hf', hk', hi⟩
  · have hi' : i = childN ks k := by
      rw [← hi]
      cases f with
      | zero => rfl
      | succ f => rw [childGo, if_neg (fun q => c q.1)]
    refine ZMb 12 false ?_ (hi := by exact decide_eq_false (by omega))
    refine Wq [7, 8, 9, 10, 11, 12, 13, 14, 15, 16] ?_
    refine ZE ?_
    refine Ws ?_
    refine Zfn [] (hq := ?_)
    exact ⟨by rw [hi']; rfl, rfl⟩
end Go.Proofs.YtcglabmlhljkmaaGreat
end
section
/- tree: a view's write: the walk. -/
namespace Go.Proofs.YtcglabmlhljkmaaGreat
open Go Go.RowKit Go.Gv
set_option linter.unusedVariables false
set_option linter.unusedSimpArgs false

theorem z513' : (Value.int .i64 0 :: List.replicate 512 (Value.bool false)).length = 513 := by rw [List.length_cons, List.length_replicate]
set_option maxHeartbeats 8000000 in
theorem view_write (pv d : Nat) (v : VS) (leaf : Bool) (ev kv dv : Value) (x : ND3) (l : List (Value × Nat × List Value)) (hv : v.ok) (hl : v.S.W.length ≤ 800000)
    (mE : (ev, x.E.length, EL x.E) ∈ l) (mK : (kv, x.K.length, KL x.K) ∈ l) (mD : (dv, x.D.length, NL x.D) ∈ l) (hR : ∀ e ∈ x.E, entR e) :
    Gv.Spec Tryz.prog 104 #[.pointer (some ⟨pv, 0, none⟩), ndW leaf ev kv dv] [blk pv 146 (viewL d v), DSK d v.S, manyRd l]
    (fun r H' => r = .tuple #[.int .i64 (wrN v leaf x).2.1, .int .i64 ((wrN v leaf x).2.2 : Int)] ∧ H' = [blk pv 146 (viewL d (wrN v leaf x).1), DSK d (wrN v leaf x).1.S, manyRd l]) := by
  refine Gv.Spec.of (fun w h0 hw => ?_)
  refine Calls.enter Tryz.func104 rfl rfl rfl hw ?_
  simp only [argSlots]
  refine Wap ?_
  refine Ws ?_
  (refine Wbx ?_; intro b3)
  refine Ws ?_
  refine Zla (cs := ndLL leaf ev kv dv) ?_ (hl := by rfl)
  (repeat (first | (with_reducible refine Tri.seq ?_) | (with_reducible refine Tri.region ?_) | (with_reducible refine Tri.nil ?_) | ((with_reducible apply Tri.op); (case hg => rfl)) | (with_reducible refine Tri.thenN ?_) | (with_reducible refine Tri.blockN ?_) | (with_reducible refine Tri.thenR ?_) | (with_reducible refine Tri.blockR ?_) | (with_reducible refine Tri.thenE ?_) | (with_reducible refine Tri.blockE ?_) | ((with_reducible apply Tri.blockE'); (case hne => rfl)) | (with_reducible refine Tri.block ?_) | (with_reducible refine Tri.skip ?_) | (with_reducible refine Tri.exit ?_) | (with_reducible refine Tri.ret ?_) | ((with_reducible apply Tri.condT); (case hc => rfl); (case hb => with_reducible rfl)) | ((with_reducible apply Tri.condF); (case hc => rfl); (case hb => with_reducible rfl)) | ((with_reducible apply Tri.opYes); (case hg => rfl); (case hy => rfl); (case hb => with_reducible rfl)) | ((with_reducible apply Tri.opNo (c := true)); (case hg => rfl); (case hd => rfl); (case hn => rfl); (case hy => rfl); (case hb => with_reducible rfl); (case hc => rfl)) | ((with_reducible apply Tri.opNo (c := false)); (case hg => rfl); (case hd => rfl); (case hn => rfl); (case hy => rfl); (case hb => with_reducible rfl); (case hc => rfl)) | ((with_reducible apply Tri.opNoU); (case hg => rfl); (case hyu => rfl); (case hd => rfl); (case hn => rfl)) | ((with_reducible apply o_move); (case hx => rfl); (case hn => rfl)) | ((with_reducible apply o_assign); (case hx => rfl); (case hn => rfl)) | ((with_reducible apply o_pickT); (case hc => rfl); (case hb => with_reducible rfl); (case hx => rfl); (case hn => rfl)) | ((with_reducible apply o_pickF); (case hc => rfl); (case hb => with_reducible rfl); (case hy => rfl); (case hn => rfl)) | ((with_reducible apply o_add64); (case hx => rfl); (case hy => rfl); (case hn => rfl); (case hb => omega)) | ((with_reducible apply o_add); (case hx => rfl); (case hy => rfl); (case hn => rfl)) | ((with_reducible apply o_sub64); (case hx => rfl); (case hy => rfl); (case hn => rfl); (case hb => omega)) | ((with_reducible apply o_sub); (case hx => rfl); (case hy => rfl); (case hn => rfl)) | ((with_reducible apply o_mul64); (case hx => rfl); (case hy => rfl); (case hn => rfl); (case hb => omega)) | ((with_reducible apply o_mul); (case hx => rfl); (case hy => rfl); (case hn => rfl)) | ((with_reducible apply o_lss); (case hx => rfl); (case hy => rfl); (case hn => rfl)) | ((with_reducible apply o_leq); (case hx => rfl); (case hy => rfl); (case hn => rfl)) | ((with_reducible apply o_gtr); (case hx => rfl); (case hy => rfl); (case hn => rfl)) | ((with_reducible apply o_geq); (case hx => rfl); (case hy => rfl); (case hn => rfl)) | ((with_reducible apply o_eql); (case hx => rfl); (case hy => rfl); (case hn => rfl)) | ((with_reducible apply o_neq); (case hx => rfl); (case hy => rfl); (case hn => rfl)) | ((with_reducible apply o_rem); (case hx => rfl); (case hy => rfl); (case hn => rfl); (case hi => omega); (case hj => omega)) | ((with_reducible apply o_remT); (case hx => rfl); (case hy => rfl); (case hn => rfl); (case hj => omega)) | ((with_reducible apply o_quo); (case hx => rfl); (case hy => rfl); (case hn => rfl); (case hi => omega); (case hj => omega)) | ((with_reducible apply o_shr); (case hx => rfl); (case hy => rfl); (case hn => rfl); (case hj => omega)) | ((with_reducible apply o_shl); (case hx => rfl); (case hy => rfl); (case hn => rfl); (case hj => omega)) | ((with_reducible apply o_and); (case hx => rfl); (case hy => rfl); (case hn => rfl)) | ((with_reducible apply o_or); (case hx => rfl); (case hy => rfl); (case hn => rfl)) | ((with_reducible apply o_xor); (case hx => rfl); (case hy => rfl); (case hn => rfl)) | ((with_reducible apply o_notD); (case hx => rfl); (case hn => rfl)) | ((with_reducible apply o_not); (case hx => rfl); (case hn => rfl)) | ((with_reducible apply o_neg); (case hx => rfl); (case hn => rfl)) | ((with_reducible apply o_com); (case hx => rfl); (case hn => rfl)) | ((with_reducible apply o_convI); (case hx => rfl); (case hn => rfl); (case hw => first | decide | (exact wrap_i64 (by omega)) | (exact wrap_u8 (by omega)) | (exact wrap_u16 (by omega)) | (exact wrap_u32 (by omega)) | (exact wrap_u64 (by omega)))) | ((with_reducible apply o_conv8); (case hx => rfl); (case hn => rfl)) | ((with_reducible apply o_conv32); (case hx => rfl); (case hn => rfl)) | ((with_reducible apply o_conv64); (case hx => rfl); (case hn => rfl)) | ((with_reducible apply o_conv); (case hx => rfl); (case hn => rfl)) | ((with_reducible apply o_extract); (case hx => rfl); (case hv => rfl); (case hn => rfl)) | ((with_reducible apply o_nilCheck); (case hx => rfl); (case hn => rfl)) | ((with_reducible apply o_fieldAddr); (case hx => rfl); (case hn => rfl)) | ((with_reducible apply o_fieldE); (case hx => rfl); (case hn => rfl)) | ((with_reducible apply o_load); (case hx => rfl); (case p => (first | ((repeat (first | with_reducible exact Pull.head | with_reducible apply Pull.tail)); done) | (repeat (first | exact Pull.head | apply Pull.tail)))); (case hv => rfl); (case hn => rfl)) | ((with_reducible apply o_len); (case hx => rfl); (case hn => rfl)) | ((with_reducible apply o_lenOwn); (case hx => rfl); (case p => (first | ((repeat (first | with_reducible exact Pull.head | with_reducible apply Pull.tail)); done) | (repeat (first | exact Pull.head | apply Pull.tail)))); (case hn => rfl)) | ((with_reducible apply o_ixArr); (case hx => rfl); (case hy => rfl); (case hj => first | rfl | exact (Int.toNat_of_nonneg (by omega)).symm); (case hlt => first | omega | assumption); (case hn => rfl)) | ((with_reducible apply o_ixSl); (case hx => rfl); (case hy => rfl); (case hj => first | rfl | exact (Int.toNat_of_nonneg (by omega)).symm); (case hlt => first | omega | assumption); (case hn => rfl)) | ((with_reducible apply o_eqlB); (case hx => rfl); (case hy => rfl); (case hn => rfl)) | ((with_reducible apply o_neqB); (case hx => rfl); (case hy => rfl); (case hn => rfl)) | ((with_reducible apply o_eqlN); (case hx => rfl); (case hy => rfl); (case hn => rfl)) | ((with_reducible apply o_neqN); (case hx => rfl); (case hy => rfl); (case hn => rfl)) | ((with_reducible apply o_min); (case hx => rfl); (case hy => rfl); (case hn => rfl)) | ((with_reducible apply o_max); (case hx => rfl); (case hy => rfl); (case hn => rfl)) | ((with_reducible apply o_eqlS); (case hx => rfl); (case hy => rfl); (case hn => rfl)) | ((with_reducible apply o_neqS); (case hx => rfl); (case hy => rfl); (case hn => rfl)) | ((with_reducible apply o_build0); (case hn => rfl)) | ((with_reducible apply o_index); (case hx => rfl); (case hy => rfl); (case hj => first | rfl | exact (Int.toNat_of_nonneg (by omega)).symm); (case hlt => first | omega | assumption); (case hv => rfl); (case hn => rfl)) | ((with_reducible apply o_ixArr (j := 0)); (case hx => rfl); (case hy => rfl); (case hj => rfl); (case hlt => first | omega | assumption); (case hn => rfl)) | ((with_reducible apply o_ixArr (j := 1)); (case hx => rfl); (case hy => rfl); (case hj => rfl); (case hlt => first | omega | assumption); (case hn => rfl)) | ((with_reducible apply o_ixArr (j := 2)); (case hx => rfl); (case hy => rfl); (case hj => rfl); (case hlt => first | omega | assumption); (case hn => rfl)) | ((with_reducible apply o_ixArr (j := 3)); (case hx => rfl); (case hy => rfl); (case hj => rfl); (case hlt => first | omega | assumption); (case hn => rfl)) | (with_reducible refine TriR.seq ?_) | (with_reducible refine TriR.region ?_) | (with_reducible refine TriR.nil ?_) | (with_reducible refine TriR.block ?_) | (with_reducible refine TriR.skip ?_) | (with_reducible refine TriR.exit ?_) | (with_reducible refine TriR.ret ?_) | ((with_reducible apply TriR.op); (case hg => rfl); (case hnd => rfl)) | ((with_reducible apply TriR.condT); (case hc => rfl); (case hb => with_reducible rfl)) | ((with_reducible apply TriR.condF); (case hc => rfl); (case hb => with_reducible rfl)) | ((with_reducible apply TriR.opYes); (case hg => rfl); (case hy => rfl); (case hb => with_reducible rfl); (case hnd => rfl)) | ((with_reducible apply TriR.opNo (c := true)); (case hg => rfl); (case hd => rfl); (case hn => rfl); (case hy => rfl); (case hb => with_reducible rfl); (case hc => rfl)) | ((with_reducible apply TriR.opNo (c := false)); (case hg => rfl); (case hd => rfl); (case hn => rfl); (case hy => rfl); (case hb => with_reducible rfl); (case hc => rfl)) | ((with_reducible apply TriR.opNoU); (case hg => rfl); (case hyu => rfl); (case hd => rfl); (case hn => rfl))))
  by_cases hrt : rightN leaf x.E x.K x.D = true
  · ((with_reducible apply o_callR (hs := node_PutN leaf ev kv dv x.E x.K x.D hrt hR)); (case hargs => (repeat (first | exact evs.nil | (apply evs.cons; (case a => rfl))))); (case hpre => exact fun w' hw' => ⟨rdw_many (by (first | ((repeat (first | with_reducible exact Pull.head | with_reducible apply Pull.tail)); done) | (repeat (first | exact Pull.head | apply Pull.tail)))) mE w' hw', rdw_many (by (first | ((repeat (first | with_reducible exact Pull.head | with_reducible apply Pull.tail)); done) | (repeat (first | exact Pull.head | apply Pull.tail)))) mK w' hw', rdw_many (by (first | ((repeat (first | with_reducible exact Pull.head | with_reducible apply Pull.tail)); done) | (repeat (first | exact Pull.head | apply Pull.tail)))) mD w' hw'⟩); (case hn => rfl))
    rintro r1 H1 ⟨u, rfl, rfl⟩
    refine Wap ?_
    refine Ws ?_
    refine Zz 17 false ?_
    refine Wo ?_
    obtain ⟨T, hT⟩ : ∃ T, T = takeM v.m v.old 1 := ⟨_, rfl⟩
    have hTl : T.1.u.length = 512 := by rw [hT]; exact takeM_length _ _ _ hv.m
    have htk := bm_Take v.m v.old 1 hv.m hv.o
    rw [← hT] at htk
    ((first | with_reducible apply Tri.seqMeet (α := Nat) (Lx := fun x => [(0, .pointer (some ⟨pv, 0, none⟩)), (3, .pointer (some ⟨b3, 0, none⟩)), (6, u), (7, .int .i64 (T.2.2 : Int)), (8, .pointer (some ⟨x, 0, none⟩)), (9, .int .i64 T.2.1)]) (Hx := fun y => [own 5 1 u (putN leaf x.E x.K x.D).length (B8 (putN leaf x.E x.K x.D)), blk b3 125 (ndLL leaf ev kv dv), blk pv 146 (viewL d v), DSK d v.S, manyRd l, blk y 60 (bmL T.1), Ex h0]) | with_reducible apply TriR.seqMeet (α := Nat) (Lx := fun x => [(0, .pointer (some ⟨pv, 0, none⟩)), (3, .pointer (some ⟨b3, 0, none⟩)), (6, u), (7, .int .i64 (T.2.2 : Int)), (8, .pointer (some ⟨x, 0, none⟩)), (9, .int .i64 T.2.1)]) (Hx := fun y => [own 5 1 u (putN leaf x.E x.K x.D).length (B8 (putN leaf x.E x.K x.D)), blk b3 125 (ndLL leaf ev kv dv), blk pv 146 (viewL d v), DSK d v.S, manyRd l, blk y 60 (bmL T.1), Ex h0])); rotate_left; (rintro b8; (try dsimp only)); rotate_left)
    · refine Ws ?_
      refine Wm [blk pv 146 (viewL d v)] ?_
      refine Wq [0, 1, 2] ?_
      refine Zm 3 (h := fun _ _ x => by exact Zlg x (hv := by exact viewL_m hv) (hl := by exact bmL_len hv.m)) (k := ?_)
      refine Wq [4, 5, 6] ?_
      refine Zm 7 (h := fun _ _ x => by exact Zlg x (hv := by exact viewL_o hv) (hl := by exact bmL_len hv.o)) (k := ?_)
      refine Zm 8 (h := fun _ _ x => by exact Zcv htk x) (k := ?_)
      refine Wq [9, 10, 11, 12] ?_
      refine ZA 13 ?_
      refine Zal fun b8 => ?_
      refine Zw ?_
      refine ZA 14 ?_
      refine ZSa (ys := bmL T.1) ?_ (hl := by exact bmL_len hTl) (hc := by exact z513') (h1 := by exact bmL_one _)
      refine Zw ?_
      refine Wq [15, 16] ?_
      refine ZE ?_
      refine Wo ?_
      exact Zrc b8
    by_cases hz : T.2.2 = 0
    · (repeat (first | (with_reducible refine Tri.seq ?_) | (with_reducible refine Tri.region ?_) | (with_reducible refine Tri.nil ?_) | ((with_reducible apply Tri.op); (case hg => rfl)) | (with_reducible refine Tri.thenN ?_) | (with_reducible refine Tri.blockN ?_) | (with_reducible refine Tri.thenR ?_) | (with_reducible refine Tri.blockR ?_) | (with_reducible refine Tri.thenE ?_) | (with_reducible refine Tri.blockE ?_) | ((with_reducible apply Tri.blockE'); (case hne => rfl)) | (with_reducible refine Tri.block ?_) | (with_reducible refine Tri.skip ?_) | (with_reducible refine Tri.exit ?_) | (with_reducible refine Tri.ret ?_) | ((with_reducible apply Tri.condT); (case hc => rfl); (case hb => with_reducible rfl)) | ((with_reducible apply Tri.condF); (case hc => rfl); (case hb => with_reducible rfl)) | ((with_reducible apply Tri.opYes); (case hg => rfl); (case hy => rfl); (case hb => with_reducible rfl)) | ((with_reducible apply Tri.opNo (c := true)); (case hg => rfl); (case hd => rfl); (case hn => rfl); (case hy => rfl); (case hb => with_reducible rfl); (case hc => rfl)) | ((with_reducible apply Tri.opNo (c := false)); (case hg => rfl); (case hd => rfl); (case hn => rfl); (case hy => rfl); (case hb => with_reducible rfl); (case hc => rfl)) | ((with_reducible apply Tri.opNoU); (case hg => rfl); (case hyu => rfl); (case hd => rfl); (case hn => rfl)) | ((with_reducible apply o_move); (case hx => rfl); (case hn => rfl)) | ((with_reducible apply o_assign); (case hx => rfl); (case hn => rfl)) | ((with_reducible apply o_pickT); (case hc => rfl); (case hb => with_reducible rfl); (case hx => rfl); (case hn => rfl)) | ((with_reducible apply o_pickF); (case hc => rfl); (case hb => with_reducible rfl); (case hy => rfl); (case hn => rfl)) | ((with_reducible apply o_add64); (case hx => rfl); (case hy => rfl); (case hn => rfl); (case hb => omega)) | ((with_reducible apply o_add); (case hx => rfl); (case hy => rfl); (case hn => rfl)) | ((with_reducible apply o_sub64); (case hx => rfl); (case hy => rfl); (case hn => rfl); (case hb => omega)) | ((with_reducible apply o_sub); (case hx => rfl); (case hy => rfl); (case hn => rfl)) | ((with_reducible apply o_mul64); (case hx => rfl); (case hy => rfl); (case hn => rfl); (case hb => omega)) | ((with_reducible apply o_mul); (case hx => rfl); (case hy => rfl); (case hn => rfl)) | ((with_reducible apply o_lss); (case hx => rfl); (case hy => rfl); (case hn => rfl)) | ((with_reducible apply o_leq); (case hx => rfl); (case hy => rfl); (case hn => rfl)) | ((with_reducible apply o_gtr); (case hx => rfl); (case hy => rfl); (case hn => rfl)) | ((with_reducible apply o_geq); (case hx => rfl); (case hy => rfl); (case hn => rfl)) | ((with_reducible apply o_eql); (case hx => rfl); (case hy => rfl); (case hn => rfl)) | ((with_reducible apply o_neq); (case hx => rfl); (case hy => rfl); (case hn => rfl)) | ((with_reducible apply o_rem); (case hx => rfl); (case hy => rfl); (case hn => rfl); (case hi => omega); (case hj => omega)) | ((with_reducible apply o_remT); (case hx => rfl); (case hy => rfl); (case hn => rfl); (case hj => omega)) | ((with_reducible apply o_quo); (case hx => rfl); (case hy => rfl); (case hn => rfl); (case hi => omega); (case hj => omega)) | ((with_reducible apply o_shr); (case hx => rfl); (case hy => rfl); (case hn => rfl); (case hj => omega)) | ((with_reducible apply o_shl); (case hx => rfl); (case hy => rfl); (case hn => rfl); (case hj => omega)) | ((with_reducible apply o_and); (case hx => rfl); (case hy => rfl); (case hn => rfl)) | ((with_reducible apply o_or); (case hx => rfl); (case hy => rfl); (case hn => rfl)) | ((with_reducible apply o_xor); (case hx => rfl); (case hy => rfl); (case hn => rfl)) | ((with_reducible apply o_notD); (case hx => rfl); (case hn => rfl)) | ((with_reducible apply o_not); (case hx => rfl); (case hn => rfl)) | ((with_reducible apply o_neg); (case hx => rfl); (case hn => rfl)) | ((with_reducible apply o_com); (case hx => rfl); (case hn => rfl)) | ((with_reducible apply o_convI); (case hx => rfl); (case hn => rfl); (case hw => first | decide | (exact wrap_i64 (by omega)) | (exact wrap_u8 (by omega)) | (exact wrap_u16 (by omega)) | (exact wrap_u32 (by omega)) | (exact wrap_u64 (by omega)))) | ((with_reducible apply o_conv8); (case hx => rfl); (case hn => rfl)) | ((with_reducible apply o_conv32); (case hx => rfl); (case hn => rfl)) | ((with_reducible apply o_conv64); (case hx => rfl); (case hn => rfl)) | ((with_reducible apply o_conv); (case hx => rfl); (case hn => rfl)) | ((with_reducible apply o_extract); (case hx => rfl); (case hv => rfl); (case hn => rfl)) | ((with_reducible apply o_nilCheck); (case hx => rfl); (case hn => rfl)) | ((with_reducible apply o_fieldAddr); (case hx => rfl); (case hn => rfl)) | ((with_reducible apply o_fieldE); (case hx => rfl); (case hn => rfl)) | ((with_reducible apply o_load); (case hx => rfl); (case p => (first | ((repeat (first | with_reducible exact Pull.head | with_reducible apply Pull.tail)); done) | (repeat (first | exact Pull.head | apply Pull.tail)))); (case hv => rfl); (case hn => rfl)) | ((with_reducible apply o_len); (case hx => rfl); (case hn => rfl)) | ((with_reducible apply o_lenOwn); (case hx => rfl); (case p => (first | ((repeat (first | with_reducible exact Pull.head | with_reducible apply Pull.tail)); done) | (repeat (first | exact Pull.head | apply Pull.tail)))); (case hn => rfl)) | ((with_reducible apply o_ixArr); (case hx => rfl); (case hy => rfl); (case hj => first | rfl | exact (Int.toNat_of_nonneg (by omega)).symm); (case hlt => first | omega | assumption); (case hn => rfl)) | ((with_reducible apply o_ixSl); (case hx => rfl); (case hy => rfl); (case hj => first | rfl | exact (Int.toNat_of_nonneg (by omega)).symm); (case hlt => first | omega | assumption); (case hn => rfl)) | ((with_reducible apply o_eqlB); (case hx => rfl); (case hy => rfl); (case hn => rfl)) | ((with_reducible apply o_neqB); (case hx => rfl); (case hy => rfl); (case hn => rfl)) | ((with_reducible apply o_eqlN); (case hx => rfl); (case hy => rfl); (case hn => rfl)) | ((with_reducible apply o_neqN); (case hx => rfl); (case hy => rfl); (case hn => rfl)) | ((with_reducible apply o_min); (case hx => rfl); (case hy => rfl); (case hn => rfl)) | ((with_reducible apply o_max); (case hx => rfl); (case hy => rfl); (case hn => rfl)) | ((with_reducible apply o_eqlS); (case hx => rfl); (case hy => rfl); (case hn => rfl)) | ((with_reducible apply o_neqS); (case hx => rfl); (case hy => rfl); (case hn => rfl)) | ((with_reducible apply o_build0); (case hn => rfl)) | ((with_reducible apply o_index); (case hx => rfl); (case hy => rfl); (case hj => first | rfl | exact (Int.toNat_of_nonneg (by omega)).symm); (case hlt => first | omega | assumption); (case hv => rfl); (case hn => rfl)) | ((with_reducible apply o_ixArr (j := 0)); (case hx => rfl); (case hy => rfl); (case hj => rfl); (case hlt => first | omega | assumption); (case hn => rfl)) | ((with_reducible apply o_ixArr (j := 1)); (case hx => rfl); (case hy => rfl); (case hj => rfl); (case hlt => first | omega | assumption); (case hn => rfl)) | ((with_reducible apply o_ixArr (j := 2)); (case hx => rfl); (case hy => rfl); (case hj => rfl); (case hlt => first | omega | assumption); (case hn => rfl)) | ((with_reducible apply o_ixArr (j := 3)); (case hx => rfl); (case hy => rfl); (case hj => rfl); (case hlt => first | omega | assumption); (case hn => rfl)) | (with_reducible refine TriR.seq ?_) | (with_reducible refine TriR.region ?_) | (with_reducible refine TriR.nil ?_) | (with_reducible refine TriR.block ?_) | (with_reducible refine TriR.skip ?_) | (with_reducible refine TriR.exit ?_) | (with_reducible refine TriR.ret ?_) | ((with_reducible apply TriR.op); (case hg => rfl); (case hnd => rfl)) | ((with_reducible apply TriR.condT); (case hc => rfl); (case hb => with_reducible rfl)) | ((with_reducible apply TriR.condF); (case hc => rfl); (case hb => with_reducible rfl)) | ((with_reducible apply TriR.opYes); (case hg => rfl); (case hy => rfl); (case hb => with_reducible rfl); (case hnd => rfl)) | ((with_reducible apply TriR.opNo (c := true)); (case hg => rfl); (case hd => rfl); (case hn => rfl); (case hy => rfl); (case hb => with_reducible rfl); (case hc => rfl)) | ((with_reducible apply TriR.opNo (c := false)); (case hg => rfl); (case hd => rfl); (case hn => rfl); (case hy => rfl); (case hb => with_reducible rfl); (case hc => rfl)) | ((with_reducible apply TriR.opNoU); (case hg => rfl); (case hyu => rfl); (case hd => rfl); (case hn => rfl))))
      refine Zz 33 false ?_ (hi := by rw [hz]; rfl)
      refine Ws ?_
      refine Zla (cs := bmL T.1) ?_ (hl := by exact bmL_len hTl)
      refine Ws ?_
      refine ZSg (ys := bmL T.1) ?_ (hl := by exact bmL_len hTl) (h1 := by exact bmL_one _) (hi := by rw [viewL_len hv]; omega)
      refine Zat (blk pv _ _) (blk pv 146 (viewL d ⟨v.S, v.gen, T.1, v.old⟩)) ?_ (e := by rw [viewL_set hv T.1 v.S])
      refine Wo ?_
      (with_reducible refine Tri.seq ?_)
      refine Wo ?_
      ((first | with_reducible apply Tri.seqMeet (α := Unit) (Lx := fun _ => [(0, .pointer (some ⟨pv, 0, none⟩)), (6, u), (9, .int .i64 T.2.1), (10, .int .u8 ((kindN leaf).toNat : Int))]) (Hx := fun _ => [own 5 1 u (putN leaf x.E x.K x.D).length (B8 (putN leaf x.E x.K x.D)), blk pv 146 (viewL d ⟨v.S, v.gen, T.1, v.old⟩), DSK d v.S, manyRd l, Ex h0]) | with_reducible apply TriR.seqMeet (α := Unit) (Lx := fun _ => [(0, .pointer (some ⟨pv, 0, none⟩)), (6, u), (9, .int .i64 T.2.1), (10, .int .u8 ((kindN leaf).toNat : Int))]) (Hx := fun _ => [own 5 1 u (putN leaf x.E x.K x.D).length (B8 (putN leaf x.E x.K x.D)), blk pv 146 (viewL d ⟨v.S, v.gen, T.1, v.old⟩), DSK d v.S, manyRd l, Ex h0])); rotate_left; (rintro ⟨⟩; (try dsimp only)); rotate_left)
      · cases leaf
        · refine Ws ?_
          refine Zi 10 ((kindN false).toNat : Int) ?_ (hi := by rfl)
          exact Zrc ()
        · refine Ws ?_
          refine Zi 10 ((kindN true).toNat : Int) ?_ (hi := by rfl)
          exact Zrc ()
      obtain ⟨q, hq⟩ : ∃ q : PG, q = ⟨kindN leaf, T.2.1, v.gen, putN leaf x.E x.K x.D⟩ := ⟨_, rfl⟩
      refine Tri.shut (e := 5) (size := 1) (v := u) Wp (fun h2 ho => ?_)
      have hr2 : Rd h2 u q.b.length (B8 q.b) := by rw [hq]; exact own_Rd ho
      have hgp : q.g < 18446744073709551616 := by rw [hq]; exact hv.g
      obtain ⟨Au, cu, hu, _⟩ := (own_Rd ho).slice
      subst hu
      have hw1 : wrN v leaf x = (⟨(wrPg v.S q).1, v.gen, T.1, v.old⟩, T.2.1, (wrPg v.S q).2) := by rw [wrN, if_neg (by rw [hrt]; simp), ← hT, if_neg (by omega), ← hq]
      rw [hw1]
      obtain ⟨v1, hv1⟩ : ∃ v1 : VS, v1 = ⟨v.S, v.gen, T.1, v.old⟩ := ⟨_, rfl⟩
      have hvl : viewL d ⟨(wrPg v.S q).1, v.gen, T.1, v.old⟩ = viewL d v1 := by rw [hv1]; rfl
      have hgl : (v1.gen : Int) = v.gen := by rw [hv1]
      have hqL : ∀ w', [.int .u8 ((kindN leaf).toNat : Int), .int .i64 T.2.1, .int .u64 (v1.gen : Int), w'] = pgL q w' := fun w' => by rw [hq, hv1]; rfl
      rw [hvl]
      rw [← hv1]
      refine Ws ?_
      refine Wm [blk pv 146 (viewL d v1)] ?_
      refine Wq [0, 1, 2, 3] ?_
      refine Zm 4 (h := fun _ _ x => by exact Zlg x (hv := by exact viewL_tab d v1) (hl := by exact tabL_length)) (k := ?_)
      refine Wq [5, 6, 7] ?_
      refine Zm 8 (h := fun _ _ x => by exact Zl x (hv := by exact viewL_d d v1)) (k := ?_)
      refine Wq [9, 10, 11, 12, 13] ?_
      refine Zm 14 (h := fun _ _ x => by exact Zl x (hv := by exact viewL_g d v1)) (k := ?_)
      refine Wq [15] ?_
      ((first | ((with_reducible apply TriM.q 16); (case ho => rfl); (case hg => rfl)) | ((with_reducible apply TriM.qYes 16); (case ho => rfl); (case hg => rfl); (case hyl => rfl); (case hb => with_reducible rfl))); (case hB => kernel_rfl); (case hd => rfl); (case hn => rfl); (case h => (intro F K hK; (try dsimp only [List.cons_append, List.nil_append]); ((with_reducible apply o_build (ys := [.int .u8 ((kindN leaf).toNat : Int), .int .i64 T.2.1, .int .u64 (v1.gen : Int), .slice Au (putN leaf x.E x.K x.D).length cu])); (case hp => (repeat (first | exact pev.nil | (apply pev.cons; (case a => rfl))))); (case hf => rfl); (case hn => rfl)); exact hK)))
      refine ZMv 57 (pgV q (.slice Au (putN leaf x.E x.K x.D).length cu)) ?_ (hv := by rw [hqL]; rfl)
      refine ZA 17 ?_
      refine Zd (page_Write d v.S q (.slice Au (putN leaf x.E x.K x.D).length cu) h2 hr2 hgp hv.S hl) ?_
      refine Zw ?_
      refine Wq [18, 19] ?_
      refine ZE ?_
      refine Ws ?_
      exact Zfn [blk pv 146 (viewL d v1), DSK d (wrPg v.S q).1, manyRd l] (hq := by exact ⟨rfl, rfl⟩)
    · refine Ws ?_
      refine Zz 33 true ?_ (hi := by rw [decide_eq_true]; omega)
      refine Ws ?_
      have hw1 : wrN v leaf x = (v, 0, T.2.2) := by rw [wrN, if_neg (by rw [hrt]; simp), ← hT, if_pos hz]
      rw [hw1]
      exact Zfn [blk pv 146 (viewL d v), DSK d v.S, manyRd l] (hq := by exact ⟨rfl, rfl⟩)
  · have hrt' : rightN leaf x.E x.K x.D = false := by simpa using hrt
    refine Zcr (node_PutN_no leaf ev kv dv x.E x.K x.D hrt') ?_ (hpre := by exact fun w' hw' => ⟨rdw_many Wp mE w' hw', rdw_many Wp mK w' hw', rdw_many Wp mD w' hw'⟩)
    rintro r1 H1 ⟨rfl, rfl⟩
    refine Wap ?_
    refine Ws ?_
    refine Zz 17 true ?_
    refine Ws ?_
    have hw1 : wrN v leaf x = (v, 0, 1) := by rw [wrN, if_pos hrt']
    rw [hw1]
    exact Zfn [blk pv 146 (viewL d v), DSK d v.S, manyRd l] (hq := by exact ⟨rfl, rfl⟩)
end Go.Proofs.YtcglabmlhljkmaaGreat
end
section
/- tree: a view's under: the walk. -/
namespace Go.Proofs.YtcglabmlhljkmaaGreat
open Go Go.RowKit Go.Gv
set_option linter.unusedVariables false
set_option linter.unusedSimpArgs false

theorem one_int (n : Int) : ∀ y ∈ [Value.int .i64 n], y.oneCell' = true := fun y hy => by rw [List.mem_singleton.1 hy]; rfl
set_option maxHeartbeats 16000000 in
theorem view_under (pv d : Nat) (v : VS) (leaf : Bool) (AR : Option Addr) (cr : Nat) (VV : List (Value × Value × Value)) (xs : List ND3) (hv : v.ok) (hxl : VV.length = xs.length) (hn : xs.length ≤ 100000) (hl : v.S.W.length + 4 * xs.length ≤ 800000)
    (hW : ∀ v ∈ VV, ∃ A a B b C c i j k, v = (Value.slice A i a, Value.slice B j b, Value.slice C k c)) (hR : ∀ x ∈ xs, ∀ e ∈ x.E, entR e) :
    Gv.Spec Tryz.prog 101 #[.pointer (some ⟨pv, 0, none⟩), .slice AR VV.length cr] [blk pv 146 (viewL d v), DSK d v.S, own 125 4 (.slice AR VV.length cr) VV.length (NDL leaf VV), manyRd (RDS VV xs)]
    (fun r H' => ∃ A a B b, r = .tuple #[ndW false (.slice none 0 0) (.slice A (unN leaf v xs).2.1.K.length a) (.slice B (unN leaf v xs).2.1.D.length b), .int .i64 ((unN leaf v xs).2.2 : Int)]
      ∧ H' = [blk pv 146 (viewL d (unN leaf v xs).1), DSK d (unN leaf v xs).1.S, own 125 4 (.slice AR VV.length cr) VV.length (NDL leaf VV), manyRd (RDS VV xs), own 38 2 (.slice A (unN leaf v xs).2.1.K.length a) (unN leaf v xs).2.1.K.length (KL (unN leaf v xs).2.1.K), own 3 1 (.slice B (unN leaf v xs).2.1.D.length b) (unN leaf v xs).2.1.D.length (NL (unN leaf v xs).2.1.D)]) := by
  refine Gv.Spec.of (fun w h0 hw => ?_)
  refine Calls.enter Tryz.func101 rfl rfl rfl hw ?_
  simp only [argSlots]
  refine Wap ?_
  refine Ws ?_
  refine Zal fun b4 => ?_
  refine Ws ?_
  refine Zal fun b6 => ?_
  refine Ws ?_
  (with_reducible apply Tri.ownNil 38 2)
  (with_reducible apply Tri.ownNil 3 1)
  refine Zat (own 38 2 (.slice none 0 0) 0 []) (own 38 2 (.slice none 0 0) 0 (KL ((xs.take 0).map (least3 leaf)))) ?_
  refine Zat (own 3 1 (.slice none 0 0) 0 []) (own 3 1 (.slice none 0 0) 0 (NL (unGo leaf v (xs.take 0)).2.1)) ?_
  refine Zat (blk pv _ _) (blk pv 146 (viewL d (unGo leaf v (xs.take 0)).1)) ?_
  refine Zat (DSK d _) (DSK d (unGo leaf v (xs.take 0)).1.S) ?_
  refine Zat (blk b6 _ _) (blk b6 125 (ndLL false (.slice none 0 0) (.slice none 0 0) (.slice none 0 0))) ?_
  refine Zat (blk b4 _ _) (blk b4 125 (ndLL false (.slice none 0 0) (.slice none 0 0) (.slice none 0 0))) ?_
  (refine Wl (α := Σ' (i : Nat) (_ : Option Addr) (_ : Nat) (_ : Option Addr) (_ : Nat), i ≤ xs.length ∧ (unGo leaf v (xs.take i)).2.2 = 0) (fun x => xs.length - x.1) (fun x => [(0, .pointer (some ⟨pv, 0, none⟩)), (4, .pointer (some ⟨b4, 0, none⟩)), (6, .pointer (some ⟨b6, 0, none⟩)), (11, .slice AR VV.length cr), (12, .int .i64 (VV.length : Int)), (13, .int .i64 (x.1 : Int))]) (fun x => [blk b6 125 (ndLL false (.slice none 0 0) (.slice x.2.1 x.1 x.2.2.1) (.slice x.2.2.2.1 x.1 x.2.2.2.2.1)), blk b4 125 (ndLL false (.slice none 0 0) (.slice none 0 0) (.slice none 0 0)), blk pv 146 (viewL d (unGo leaf v (xs.take x.1)).1), DSK d (unGo leaf v (xs.take x.1)).1.S, own 125 4 (.slice AR VV.length cr) VV.length (NDL leaf VV), manyRd (RDS VV xs), own 38 2 (.slice x.2.1 x.1 x.2.2.1) x.1 (KL ((xs.take x.1).map (least3 leaf))), own 3 1 (.slice x.2.2.2.1 x.1 x.2.2.2.2.1) x.1 (NL (unGo leaf v (xs.take x.1)).2.1), Ex h0]) ⟨0, none, 0, none, 0, Nat.zero_le _, rfl⟩ ?_; rintro ⟨i, A, a, B, b, hi, he⟩ mx hmx; (try dsimp only at hmx ⊢))
  refine Ws ?_
  (refine Wcd ?_ ?_ <;> intro hc)
  · have hix : i < xs.length := by omega
    have hiv : i < VV.length := by omega
    obtain ⟨y, hy⟩ : ∃ y, xs[i]? = some y := ⟨_, List.getElem?_eq_getElem hix⟩
    obtain ⟨vv, hvv⟩ : ∃ v, VV[i]? = some v := ⟨_, List.getElem?_eq_getElem hiv⟩
    obtain ⟨A1, a1, B1, b1, C1, c1, i1, j1, k1, rfl⟩ := hW vv (List.mem_of_getElem? hvv)
    have hRy := hR y (List.mem_of_getElem? hy)
    have hmem := rds_at VV xs i _ y hvv hy
    have htk : xs.take (i + 1) = xs.take i ++ [y] := by rw [List.take_add_one, hy]; rfl
    have hsn := unGo_snoc leaf (xs.take i) v y he
    rw [← htk] at hsn
    have hok := unGo_ok leaf (xs.take i) hv
    have hok2 := unGo_ok leaf (xs.take (i + 1)) hv
    have hln := unGo_len leaf (xs.take i) v
    have hlt : (xs.take i).length = i := by rw [List.length_take]; omega
    rw [hlt] at hln
    obtain ⟨U, hU⟩ : ∃ U, U = unGo leaf v (xs.take i) := ⟨_, rfl⟩
    rw [← hU] at he hsn hok hln ⊢
    refine Ws ?_
    refine Zix (j := i) ?_ (hj := by rfl) (hlt := by exact hiv)
    refine Ws ?_
    refine Zlq ?_ (hv := by exact NDL_at VV i _ hvv) (hl := by rfl)
    refine Ws ?_
    refine Zal fun b8 => ?_
    refine Ws ?_
    refine ZSa (ys := ndLL leaf (.slice A1 i1 a1) (.slice B1 j1 b1) (.slice C1 k1 c1)) ?_ (h1 := by exact ndLL_one leaf A1 B1 C1 i1 a1 j1 b1 k1 c1)
    refine Ws ?_
    refine Zla (cs := ndLL leaf (.slice A1 i1 a1) (.slice B1 j1 b1) (.slice C1 k1 c1)) ?_ (hl := by rfl)
    refine Ws ?_
    refine Zd (view_write pv d U.1 leaf (.slice A1 i1 a1) (.slice B1 j1 b1) (.slice C1 k1 c1) y (RDS VV xs) hok (by omega) hmem.1 hmem.2.1 hmem.2.2 hRy) ?_
    obtain ⟨W, hWd⟩ : ∃ W, W = wrN U.1 leaf y := ⟨_, rfl⟩
    rw [← hWd] at hsn ⊢
    by_cases hz : W.2.2 = 0
    · have he' : (unGo leaf v (xs.take (i + 1))).2.2 = 0 := by rw [hsn.2.1]; exact hz
      have hix' : i + 1 ≤ xs.length := hix
      have hkl : KL ((xs.take i).map (least3 leaf)) ++ keyL (leastN leaf y.E y.K) = KL ((xs.take (i + 1)).map (least3 leaf)) := by
        rw [htk, List.map_append, KL_app]; simp [KL, least3]
      have hnl : NL U.2.1 ++ [.int .i64 W.2.1] = NL (unGo leaf v (xs.take (i + 1))).2.1 := by
        rw [hsn.2.2 hz, NL_app]; rfl
      refine Ws ?_
      refine Zz 24 false ?_ (hi := by rw [hz]; rfl)
      refine Ws ?_
      refine Znm 12 [blk b8 125 (ndLL leaf (.slice A1 i1 a1) (.slice B1 j1 b1) (.slice C1 k1 c1)), manyRd (RDS VV xs)] [blk b8 125 (ndLL leaf (.slice A1 i1 a1) (.slice B1 j1 b1) (.slice C1 k1 c1)), manyRd (RDS VV xs), blk b6 125 (ndLL false (.slice none 0 0) (.slice A i a) (.slice B i b))] ?_
      refine Wnq [0, 1] ?_
      refine Zn 2 (h := fun _ _ x => by exact Zla (cs := ndLL leaf (.slice A1 i1 a1) (.slice B1 j1 b1) (.slice C1 k1 c1)) x (hl := by rfl)) (k := ?_)
      refine Zn 3 (h := fun _ _ x => by exact Zcv (node_Least leaf (.slice A1 i1 a1) (.slice B1 j1 b1) (.slice C1 k1 c1) y.E y.K y.D) x (hpre := by exact fun w' hw' => ⟨rdw_many Wp hmem.1 w' hw', rdw_many Wp hmem.2.1 w' hw', rdw_many Wp hmem.2.2 w' hw'⟩)) (k := ?_)
      refine Wnq [6, 7, 8] ?_
      ((with_reducible apply TriN.a2 4 9); (case hoi => rfl); (case hoj => rfl); (case hgi => rfl); (case hgj => rfl); (case hr => kernel_rfl); (all_goals (try dsimp only [List.cons_append, List.nil_append])))
      · (refine Zli (ys := keyL (leastN leaf y.E y.K)) ?_; intro v4)
        refine Znb ?_
        ((with_reducible apply TriN.a2 5 9); (case hoi => rfl); (case hoj => rfl); (case hgi => rfl); (case hgj => rfl); (case hr => kernel_rfl); (all_goals (try dsimp only [List.cons_append, List.nil_append])))
        · refine Zap (m2 := 1) (news := keyL (leastN leaf y.E y.K)) ?_ (hr := by exact rdw_own (v := v4) Wp) (hl := by rfl) (h1 := by exact keyL_one _)
          intro v5
          (refine Tri.shape (e := 38) (size := 2) (v := v5) Wp ?_; rintro ⟨A2, a2, rfl⟩)
          refine Znb ?_
          refine Wnp [11] ?_
          refine Zna 9 ?_
          (refine Zli (ys := [.int .i64 W.2.1]) ?_; intro v9)
          refine Znb ?_
          refine Zna 10 ?_
          refine Zap (m2 := 1) (news := [.int .i64 W.2.1]) ?_ (hr := by exact rdw_own (v := v9) Wp) (hl := by rfl) (h1 := by exact one_int _)
          intro v10
          (refine Tri.shape (e := 3) (size := 1) (v := v10) Wp ?_; rintro ⟨B2, b2, rfl⟩)
          refine Znb ?_
          refine Znl ?_
          refine ZS ?_ (hi := by exact (by decide : 2 < 4))
          refine Zw ?_
          refine Wq [13] ?_
          refine ZA 14 ?_
          refine ZS ?_ (hi := by exact (by decide : 3 < 4))
          refine Zw ?_
          refine ZE ?_
          refine Ws ?_
          refine Zat (own 38 2 (.slice A2 (i + 1) a2) _ _) (own 38 2 (.slice A2 (i + 1) a2) (i + 1) (KL ((xs.take (i + 1)).map (least3 leaf)))) ?_ (e := by rw [hkl])
          refine Zat (own 3 1 (.slice B2 (i + 1) b2) _ _) (own 3 1 (.slice B2 (i + 1) b2) (i + 1) (NL (unGo leaf v (xs.take (i + 1))).2.1)) ?_ (e := by rw [hnl])
          refine Zat (blk pv _ _) (blk pv 146 (viewL d (unGo leaf v (xs.take (i + 1))).1)) ?_ (e := by rw [hsn.1])
          refine Zat (DSK d _) (DSK d (unGo leaf v (xs.take (i + 1))).1.S) ?_ (e := by rw [hsn.1])
          refine Zat (blk b6 _ _) (blk b6 125 (ndLL false (.slice none 0 0) (.slice A2 (i + 1) a2) (.slice B2 (i + 1) b2))) ?_
          refine Zi 13 ((i + 1 : Nat) : Int) ?_ (hi := by omega)
          exact Zag ⟨i + 1, A2, a2, B2, b2, hix', he'⟩
        · (refine Zli (ys := [.int .i64 W.2.1]) ?_; intro v9)
          refine Znb ?_
          refine Zna 5 ?_
          refine Zap (m2 := 1) (news := keyL (leastN leaf y.E y.K)) ?_ (hr := by exact rdw_own (v := v4) Wp) (hl := by rfl) (h1 := by exact keyL_one _)
          intro v5
          (refine Tri.shape (e := 38) (size := 2) (v := v5) Wp ?_; rintro ⟨A2, a2, rfl⟩)
          refine Znb ?_
          refine Wnp [11] ?_
          refine Zna 10 ?_
          refine Zap (m2 := 1) (news := [.int .i64 W.2.1]) ?_ (hr := by exact rdw_own (v := v9) Wp) (hl := by rfl) (h1 := by exact one_int _)
          intro v10
          (refine Tri.shape (e := 3) (size := 1) (v := v10) Wp ?_; rintro ⟨B2, b2, rfl⟩)
          refine Znb ?_
          refine Znl ?_
          refine ZS ?_ (hi := by exact (by decide : 2 < 4))
          refine Zw ?_
          refine Wq [13] ?_
          refine ZA 14 ?_
          refine ZS ?_ (hi := by exact (by decide : 3 < 4))
          refine Zw ?_
          refine ZE ?_
          refine Ws ?_
          refine Zat (own 38 2 (.slice A2 (i + 1) a2) _ _) (own 38 2 (.slice A2 (i + 1) a2) (i + 1) (KL ((xs.take (i + 1)).map (least3 leaf)))) ?_ (e := by rw [hkl])
          refine Zat (own 3 1 (.slice B2 (i + 1) b2) _ _) (own 3 1 (.slice B2 (i + 1) b2) (i + 1) (NL (unGo leaf v (xs.take (i + 1))).2.1)) ?_ (e := by rw [hnl])
          refine Zat (blk pv _ _) (blk pv 146 (viewL d (unGo leaf v (xs.take (i + 1))).1)) ?_ (e := by rw [hsn.1])
          refine Zat (DSK d _) (DSK d (unGo leaf v (xs.take (i + 1))).1.S) ?_ (e := by rw [hsn.1])
          refine Zat (blk b6 _ _) (blk b6 125 (ndLL false (.slice none 0 0) (.slice A2 (i + 1) a2) (.slice B2 (i + 1) b2))) ?_
          refine Zi 13 ((i + 1 : Nat) : Int) ?_ (hi := by omega)
          exact Zag ⟨i + 1, A2, a2, B2, b2, hix', he'⟩
      · (refine Zli (ys := [.int .i64 W.2.1]) ?_; intro v9)
        refine Znb ?_
        refine Zna 4 ?_
        (refine Zli (ys := keyL (leastN leaf y.E y.K)) ?_; intro v4)
        refine Znb ?_
        refine Zna 5 ?_
        refine Zap (m2 := 1) (news := keyL (leastN leaf y.E y.K)) ?_ (hr := by exact rdw_own (v := v4) Wp) (hl := by rfl) (h1 := by exact keyL_one _)
        intro v5
        (refine Tri.shape (e := 38) (size := 2) (v := v5) Wp ?_; rintro ⟨A2, a2, rfl⟩)
        refine Znb ?_
        refine Wnp [11] ?_
        refine Zna 10 ?_
        refine Zap (m2 := 1) (news := [.int .i64 W.2.1]) ?_ (hr := by exact rdw_own (v := v9) Wp) (hl := by rfl) (h1 := by exact one_int _)
        intro v10
        (refine Tri.shape (e := 3) (size := 1) (v := v10) Wp ?_; rintro ⟨B2, b2, rfl⟩)
        refine Znb ?_
        refine Znl ?_
        refine ZS ?_ (hi := by exact (by decide : 2 < 4))
        refine Zw ?_
        refine Wq [13] ?_
        refine ZA 14 ?_
        refine ZS ?_ (hi := by exact (by decide : 3 < 4))
        refine Zw ?_
        refine ZE ?_
        refine Ws ?_
        refine Zat (own 38 2 (.slice A2 (i + 1) a2) _ _) (own 38 2 (.slice A2 (i + 1) a2) (i + 1) (KL ((xs.take (i + 1)).map (least3 leaf)))) ?_ (e := by rw [hkl])
        refine Zat (own 3 1 (.slice B2 (i + 1) b2) _ _) (own 3 1 (.slice B2 (i + 1) b2) (i + 1) (NL (unGo leaf v (xs.take (i + 1))).2.1)) ?_ (e := by rw [hnl])
        refine Zat (blk pv _ _) (blk pv 146 (viewL d (unGo leaf v (xs.take (i + 1))).1)) ?_ (e := by rw [hsn.1])
        refine Zat (DSK d _) (DSK d (unGo leaf v (xs.take (i + 1))).1.S) ?_ (e := by rw [hsn.1])
        refine Zat (blk b6 _ _) (blk b6 125 (ndLL false (.slice none 0 0) (.slice A2 (i + 1) a2) (.slice B2 (i + 1) b2))) ?_
        refine Zi 13 ((i + 1 : Nat) : Int) ?_ (hi := by omega)
        exact Zag ⟨i + 1, A2, a2, B2, b2, hix', he'⟩
    · refine Ws ?_
      refine Zz 24 true ?_ (hi := by rw [decide_eq_true]; omega)
      refine Ws ?_
      have hst := unGo_stop leaf (xs.take (i + 1)) v (xs.drop (i + 1)) (by rw [hsn.2.1]; exact hz)
      rw [List.take_append_drop] at hst
      have hun : unN leaf v xs = (W.1, ⟨[], [], []⟩, W.2.2) := by
        rw [unN, hst, hsn.2.1, if_neg hz, hsn.1]
      rw [hun]
      refine ZSa (ys := ndLL false (.slice none 0 0) (.slice none 0 0) (.slice none 0 0)) ?_ (h1 := by exact ndLL_one false none none none 0 0 0 0 0 0)
      refine Ws ?_
      (with_reducible apply Tri.ownNil 38 2)
      (with_reducible apply Tri.ownNil 3 1)
      exact Zfn [blk pv 146 (viewL d W.1), DSK d W.1.S, own 125 4 (.slice AR VV.length cr) VV.length (NDL leaf VV), manyRd (RDS VV xs), own 38 2 (.slice none 0 0) 0 [], own 3 1 (.slice none 0 0) 0 []] (h := ResL.cons (Zra (rfl : (ndLL false (.slice none 0 0) (.slice none 0 0) (.slice none 0 0)).length = 4)) (ResL.cons (Res1.tmp rfl) (ResL.nil))) (hq := by exact ⟨none, 0, none, 0, rfl, rfl⟩)
  · have hil : i = xs.length := by omega
    subst hil
    rw [List.take_length] at he ⊢
    have hct := unGo_cnt leaf xs v he
    have hun : unN leaf v xs = ((unGo leaf v xs).1, ⟨[], xs.map (least3 leaf), (unGo leaf v xs).2.1⟩, 0) := by rw [unN, if_pos he, he]
    rw [hun]
    refine Ws ?_
    refine Zla (cs := ndLL false (.slice none 0 0) (.slice A xs.length a) (.slice B xs.length b)) ?_ (hl := by rfl)
    refine Ws ?_
    refine ZSa (ys := ndLL false (.slice none 0 0) (.slice A xs.length a) (.slice B xs.length b)) ?_ (h1 := by exact ndLL_one false none A B 0 0 _ a _ b)
    refine Ws ?_
    have hkl : (xs.map (least3 leaf)).length = xs.length := List.length_map _
    exact Zfn [blk pv 146 (viewL d (unGo leaf v xs).1), DSK d (unGo leaf v xs).1.S, own 125 4 (.slice AR VV.length cr) VV.length (NDL leaf VV), manyRd (RDS VV xs), own 38 2 (.slice A xs.length a) xs.length (KL (xs.map (least3 leaf))), own 3 1 (.slice B xs.length b) xs.length (NL (unGo leaf v xs).2.1)] (h := ResL.cons (Zra (rfl : (ndLL false (.slice none 0 0) (.slice A xs.length a) (.slice B xs.length b)).length = 4)) (ResL.cons (Res1.tmp rfl) (ResL.nil))) (hq := by exact ⟨A, a, B, b, by show _ = Value.tuple #[ndW false (.slice none 0 0) (.slice A (xs.map (least3 leaf)).length a) (.slice B (unGo leaf v xs).2.1.length b), _]; rw [hkl, hct]; rfl, by show _ = [_, _, _, _, own 38 2 (.slice A (xs.map (least3 leaf)).length a) (xs.map (least3 leaf)).length (KL (xs.map (least3 leaf))), own 3 1 (.slice B (unGo leaf v xs).2.1.length b) (unGo leaf v xs).2.1.length (NL (unGo leaf v xs).2.1)]; rw [hkl, hct]⟩)
end Go.Proofs.YtcglabmlhljkmaaGreat
end
section
/- tree: a view's stacked: the walk. -/
namespace Go.Proofs.YtcglabmlhljkmaaGreat
open Go Go.RowKit Go.Gv
set_option linter.unusedVariables false
set_option linter.unusedSimpArgs false

def shp (VV : List (Value × Value × Value)) : Prop := ∀ v ∈ VV, ∃ A a B b C c i j k, v = (Value.slice A i a, Value.slice B j b, Value.slice C k c)
/-- a level that is to be stacked -/
structure SK (R0 : VS × (Int × Nat) × Nat) where
  f : Nat
  leaf : Bool
  v : VS
  xs : List ND3
  h : Nat
  AR : Option Addr
  cr : Nat
  VV : List (Value × Value × Value)
  hR0 : stN f leaf v xs h = R0
  hf : xs.length ≤ f + 1
  h1 : 1 ≤ xs.length
  hv : v.ok
  hl : v.S.W.length + 16 * xs.length ≤ 800000
  hh : h + xs.length ≤ 60000
  hxl : VV.length = xs.length
  hW : shp VV
  hR : ∀ x ∈ xs, ∀ e ∈ x.E, entR e
theorem two_int (a b : Int) : ∀ y ∈ [Value.int .i64 a, Value.int .i64 b], y.oneCell' = true := fun y hy => by simp at hy; rcases hy with rfl | rfl <;> rfl
end Go.Proofs.YtcglabmlhljkmaaGreat
end
section
/- tree: a root that was a child; a root that is written: the walk. -/
namespace Go.Proofs.YtcglabmlhljkmaaGreat
open Go Go.RowKit Go.Gv
set_option linter.unusedVariables false
set_option linter.unusedSimpArgs false

/-- a root that is looked for below -/
structure LW (R0 : VS × (Int × Nat) × Nat) where
  h : Nat
  v : VS
  a : Int
  hR : lwN h v a = R0
  hG : lwG h v a
  hv : v.ok
  hl : v.S.W.length ≤ 1000000
  hh : h ≤ 1000
set_option maxHeartbeats 8000000 in
theorem view_lower (pv d : Nat) (v : VS) (a : Int) (h : Nat) (hv : v.ok) (hl : v.S.W.length ≤ 1000000) (hh : h ≤ 1000) (hG : lwG h v a) :
    Gv.Spec Tryz.prog 151 #[.pointer (some ⟨pv, 0, none⟩), .int .i64 a, .int .i64 (h : Int)] [blk pv 146 (viewL d v), DSK d v.S]
    (fun r H' => r = .tuple #[.agg #[.int .i64 (lwN h v a).2.1.1, .int .i64 ((lwN h v a).2.1.2 : Int)], .int .i64 ((lwN h v a).2.2 : Int)] ∧ H' = [blk pv 146 (viewL d (lwN h v a).1), DSK d (lwN h v a).1.S]) := by
  refine Gv.Spec.of (fun w h0 hw => ?_)
  refine Calls.enter Tryz.func151 rfl rfl rfl hw ?_
  simp only [argSlots]
  refine Wap ?_
  obtain ⟨R0, hR0⟩ : ∃ R, R = lwN h v a := ⟨_, rfl⟩
  rw [← hR0]
  refine Ws ?_
  refine Zal fun b6 => ?_
  refine Ws ?_
  (refine Wl (α := LW R0) (fun x => x.h) (fun x => [(0, .pointer (some ⟨pv, 0, none⟩)), (1, .int .i64 x.a), (2, .int .i64 (x.h : Int)), (6, .pointer (some ⟨b6, 0, none⟩))]) (fun x => [blk b6 43 [.int .i64 0, .int .i64 0], blk pv 146 (viewL d x.v), DSK d x.v.S, Ex h0]) ⟨h, v, a, hR0.symm, hG, hv, hl, hh⟩ ?_; rintro ⟨h, v, a, hR, hG, hv, hl, hh⟩ mx hmx; (try dsimp only at hmx ⊢))
  refine Ws ?_
  (refine Wcd ?_ ?_ <;> intro hc)
  · obtain ⟨g, rfl⟩ : ∃ g, h = g + 2 := ⟨h - 2, by omega⟩
    rw [lwG] at hG
    rw [lwN] at hR
    obtain ⟨ha, hre, hd1, hd2, hgi, hG'⟩ := hG
    have hgok := giN_ok hv a
    have hgS := giN_S v a
    obtain ⟨N, hN⟩ : ∃ N, N = rdN v.S a false := ⟨_, rfl⟩
    rw [← hN] at hre hd1 hd2 hG' hR
    have hNd := view_Node pv d v a false hv hl ha
    rw [← hN] at hNd
    refine Ws ?_
    refine Zcs hNd ?_
    rintro r1 H1 ⟨A, c, B, e, C, f, rfl, rfl⟩
    refine Wap ?_
    refine Ws ?_
    refine Zal fun b8 => ?_
    refine Ws ?_
    refine ZSa (ys := ndLL N.leaf (.slice A N.E.length c) (.slice B N.K.length e) (.slice C N.D.length f)) ?_ (h1 := by exact ndLL_one N.leaf A B C _ c _ e _ f)
    refine Ws ?_
    refine Zz 20 false ?_ (hi := by rw [hre]; rfl)
    refine Ws ?_
    by_cases hd : 1 < N.D.length
    · rw [if_pos hd] at hR
      refine Zz 26 true ?_ (hi := by rw [decide_eq_true]; omega)
      refine Ws ?_
      refine Zbu (ys := [.int .i64 a, .int .i64 ((g + 2 : Nat) : Int)]) ?_
      refine Ws ?_
      refine ZSa (ys := [.int .i64 a, .int .i64 ((g + 2 : Nat) : Int)]) ?_ (h1 := by exact two_int _ _)
      refine Ws ?_
      rw [← hR]
      exact Zfn [blk pv 146 (viewL d v), DSK d v.S] (h := ResL.cons (Zra (rfl : [Value.int .i64 a, Value.int .i64 ((g + 2 : Nat) : Int)].length = 2)) (ResL.cons (Res1.tmp rfl) (ResL.nil))) (hq := by exact ⟨rfl, rfl⟩)
    · rw [if_neg hd] at hR
      have hgv := view_give pv d v a hv
      refine Zz 26 false ?_ (hi := by exact decide_eq_false (by omega))
      refine Ws ?_
      refine Zd hgv ?_
      refine Ws ?_
      refine Zz 31 false ?_ (hi := by rw [hgi]; rfl)
      have hN0 : (NL N.D)[0]? = some (.int .i64 (N.D.getD 0 0)) := by
        obtain ⟨x, l, hx⟩ : ∃ x l, N.D = x :: l := by
          cases hh : N.D with
          | nil => rw [hh] at hd1; exact absurd hd1 (by decide)
          | cons x l => exact ⟨x, l, rfl⟩
        rw [hx]; rfl
      have hlt0 : 0 < N.D.length := hd1
      have hg1 : g + 1 ≤ 1000 := by omega
      have hgl : (giN v a).1.S.W.length ≤ 1000000 := by rw [hgS]; exact hl
      have hdk : DSK d v.S = DSK d (giN v a).1.S := by rw [hgS]
      rw [hdk]
      refine Ws ?_
      refine Zix (j := 0) ?_ (hj := by rfl) (hlt := by exact hlt0)
      refine Ws ?_
      refine Zlo (j := 0) ?_ (hv := by exact hN0)
      refine Ws ?_
      refine Zi 2 ((g + 1 : Nat) : Int) ?_ (hi := by omega)
      exact Zag ⟨g + 1, (giN v a).1, N.D.getD 0 0, hR, hG', hgok, hgl, hg1⟩
  · have h1 : h ≤ 1 := by omega
    rw [lwN_one v a h1] at hR
    refine Ws ?_
    refine Zbu (ys := [.int .i64 a, .int .i64 (h : Int)]) ?_
    refine Ws ?_
    refine ZSa (ys := [.int .i64 a, .int .i64 (h : Int)]) ?_ (h1 := by exact two_int _ _)
    refine Ws ?_
    rw [← hR]
    exact Zfn [blk pv 146 (viewL d v), DSK d v.S] (h := ResL.cons (Zra (rfl : [Value.int .i64 a, Value.int .i64 (h : Int)].length = 2)) (ResL.cons (Res1.tmp rfl) (ResL.nil))) (hq := by exact ⟨rfl, rfl⟩)
set_option maxHeartbeats 8000000 in
theorem view_single (pv d : Nat) (v : VS) (leaf : Bool) (AR : Option Addr) (cr : Nat) (VV : List (Value × Value × Value)) (xs : List ND3) (h : Nat) (hv : v.ok) (hl : v.S.W.length ≤ 800000) (hxl : VV.length = xs.length) (hW : shp VV) (hR : ∀ x ∈ xs, ∀ e ∈ x.E, entR e) (hh : h ≤ 1000) (hG : sgG leaf v xs h) :
    Gv.Spec Tryz.prog 113 #[.pointer (some ⟨pv, 0, none⟩), .slice AR VV.length cr, .int .i64 (h : Int)] [blk pv 146 (viewL d v), DSK d v.S, own 125 4 (.slice AR VV.length cr) VV.length (NDL leaf VV), manyRd (RDS VV xs)]
    (fun r H' => r = .tuple #[.agg #[.int .i64 (sgN leaf v xs h).2.1.1, .int .i64 ((sgN leaf v xs h).2.1.2 : Int)], .int .i64 ((sgN leaf v xs h).2.2 : Int)] ∧ H' = [blk pv 146 (viewL d (sgN leaf v xs h).1), DSK d (sgN leaf v xs h).1.S]) := by
  refine Gv.Spec.of (fun w h0 hw => ?_)
  refine Calls.enter Tryz.func113 rfl rfl rfl hw ?_
  simp only [argSlots]
  refine Wap ?_
  obtain ⟨hx1, hlw⟩ := hG
  obtain ⟨R0, hR0⟩ : ∃ R, R = sgN leaf v xs h := ⟨_, rfl⟩
  rw [← hR0]
  rw [sgN] at hR0
  refine Ws ?_
  refine Zal fun b6 => ?_
  refine Ws ?_
  by_cases hx0 : xs.length = 0
  · rw [if_pos (Or.inl hx0)] at hR0
    refine Zz 14 true ?_ (hi := by rw [decide_eq_true]; omega)
    refine Ws ?_
    refine ZSa (ys := [.int .i64 0, .int .i64 0]) ?_ (h1 := by exact two_int _ _)
    refine Ws ?_
    rw [hR0]
    exact Zfn [blk pv 146 (viewL d v), DSK d v.S] (h := ResL.cons (Zra (rfl : [Value.int .i64 0, Value.int .i64 0].length = 2)) (ResL.cons (Res1.tmp rfl) (ResL.nil))) (hq := by exact ⟨rfl, rfl⟩)
  · have hx1' : xs.length = 1 := by omega
    obtain ⟨y, rfl⟩ : ∃ y, xs = [y] := ⟨xs[0]'(by omega), List.ext_getElem (by simp [hx1']) (fun i p q => by simp at q; subst q; rfl)⟩
    obtain ⟨vv, rfl⟩ : ∃ v, VV = [v] := ⟨VV[0]'(by rw [hxl]; simp), List.ext_getElem (by simp [hxl]) (fun i p q => by simp at q; subst q; rfl)⟩
    obtain ⟨A1, a1, B1, b1, C1, c1, i1, j1, k1, rfl⟩ := hW vv (List.mem_singleton.2 rfl)
    have hyd : ([y] : List ND3).getD 0 nd0 = y := rfl
    rw [hyd] at hR0 hlw
    have hRy := hR y (List.mem_singleton.2 rfl)
    have hmem := rds_at [(Value.slice A1 i1 a1, Value.slice B1 j1 b1, Value.slice C1 k1 c1)] [y] 0 _ y rfl rfl
    have hsz := node_Size leaf (.slice A1 i1 a1) (.slice B1 j1 b1) (.slice C1 k1 c1) y.E y.K y.D
    have hsz0 : sizeN leaf y.E y.D = szN leaf y := rfl
    rw [hsz0] at hsz
    obtain ⟨sz, hszd⟩ : ∃ sz, sz = szN leaf y := ⟨_, rfl⟩
    rw [← hszd] at hsz hR0
    obtain ⟨l, hld⟩ : ∃ l, l = RDS [(Value.slice A1 i1 a1, Value.slice B1 j1 b1, Value.slice C1 k1 c1)] [y] := ⟨_, rfl⟩
    rw [← hld] at hmem ⊢
    have hlen1 : [(Value.slice A1 i1 a1, Value.slice B1 j1 b1, Value.slice C1 k1 c1)].length = 1 := rfl
    rw [hlen1]
    refine Zz 14 false ?_
    refine Ws ?_
    refine Zix (j := 0) ?_ (hj := by rfl) (hlt := by exact (by decide : 0 < 1))
    refine Ws ?_
    refine Zlq ?_ (hv := by exact NDL_at _ 0 _ rfl) (hl := by rfl)
    refine Ws ?_
    refine Zcv hsz ?_ (hpre := by exact fun w' hw' => ⟨rdw_many Wp hmem.1 w' hw', rdw_many Wp hmem.2.1 w' hw', rdw_many Wp hmem.2.2 w' hw'⟩)
    refine Ws ?_
    by_cases hs0 : sz = 0
    · rw [if_pos (Or.inr hs0)] at hR0
      refine Zz 10 true ?_ (hi := by rw [decide_eq_true]; omega)
      refine Ws ?_
      refine ZSa (ys := [.int .i64 0, .int .i64 0]) ?_ (h1 := by exact two_int _ _)
      refine Ws ?_
      rw [hR0]
      exact Zfn [blk pv 146 (viewL d v), DSK d v.S] (h := ResL.cons (Zra (rfl : [Value.int .i64 0, Value.int .i64 0].length = 2)) (ResL.cons (Res1.tmp rfl) (ResL.nil))) (hq := by exact ⟨rfl, rfl⟩)
    · rw [if_neg (fun c => c.elim hx0 hs0)] at hR0
      refine Zz 10 false ?_ (hi := by exact decide_eq_false (by omega))
      refine Ws ?_
      refine Zix (j := 0) ?_ (hj := by rfl) (hlt := by exact (by decide : 0 < 1))
      refine Ws ?_
      refine Zlo (j := 0 * 4 + 0) (v := .bool leaf) ?_
      refine Ws ?_
      have hwr := view_write pv d v leaf (.slice A1 i1 a1) (.slice B1 j1 b1) (.slice C1 k1 c1) y l hv hl hmem.1 hmem.2.1 hmem.2.2 hRy
      by_cases hs1 : leaf = false ∧ sz = 1
      · obtain ⟨rfl, hs2⟩ := hs1
        rw [if_pos ⟨rfl, hs2⟩] at hR0
        obtain ⟨hh1, hG1⟩ := hlw rfl (by rw [← hszd]; exact hs2)
        have hdl : y.D.length = 1 := by rw [← hs2, hszd]; rfl
        have hN0 : (NL y.D)[0]? = some (.int .i64 (y.D.getD 0 0)) := by
          obtain ⟨x, l', hx⟩ : ∃ x l', y.D = x :: l' := by
            cases hh' : y.D with
            | nil => rw [hh'] at hdl; exact absurd hdl (by decide)
            | cons x l' => exact ⟨x, l', rfl⟩
          rw [hx]; rfl
        have hlt0 : 0 < y.D.length := by omega
        have hltl : 0 * 1 < (NL y.D).length := by rw [NL_lens y.D rfl]; omega
        have hlow := view_lower pv d v (y.D.getD 0 0) (h - 1) hv (by omega) (by omega) hG1
        rw [← hR0] at hlow
        refine Zz 28 true ?_
        refine Ws ?_
        refine Zix (j := 0) ?_ (hj := by rfl) (hlt := by exact (by decide : 0 < 1))
        refine Ws ?_
        refine Zlq ?_ (hv := by exact NDL_at _ 0 _ rfl) (hl := by rfl)
        refine Ws ?_
        refine Zcv hsz ?_ (hpre := by exact fun w' hw' => ⟨rdw_many Wp hmem.1 w' hw', rdw_many Wp hmem.2.1 w' hw', rdw_many Wp hmem.2.2 w' hw'⟩)
        refine Ws ?_
        refine Zz 22 true ?_ (hi := by rw [decide_eq_true]; omega)
        refine Ws ?_
        refine Zix (j := 0) ?_ (hj := by rfl) (hlt := by exact (by decide : 0 < 1))
        refine Ws ?_
        refine Zlo (j := 0 * 4 + 3) (v := .slice C1 k1 c1) ?_
        refine Ws ?_
        refine ZoixW (j := 0) ?_ (hr := by exact rdw_many Wp hmem.2.2) (hj := by rfl) (hlt := by exact hlt0) (hl := by exact hltl)
        refine Ws ?_
        refine ZoloadW ?_ (hr := by exact rdw_many Wp hmem.2.2) (hv := by exact hN0)
        refine Ws ?_
        refine Zi 43 ((h - 1 : Nat) : Int) ?_ (hi := by omega)
        refine Ws ?_
        refine Zd hlow ?_
        refine Ws ?_
        refine ZSa (ys := [.int .i64 R0.2.1.1, .int .i64 (R0.2.1.2 : Int)]) ?_ (h1 := by exact two_int _ _)
        refine Ws ?_
        exact Zfn [blk pv 146 (viewL d R0.1), DSK d R0.1.S] (h := ResL.cons (Zra (rfl : [Value.int .i64 R0.2.1.1, Value.int .i64 (R0.2.1.2 : Int)].length = 2)) (ResL.cons (Res1.tmp rfl) (ResL.nil))) (hq := by exact ⟨rfl, rfl⟩)
      · rw [if_neg hs1] at hR0
        cases leaf with
        | true =>
          refine Zz 28 false ?_
          refine Ws ?_
          refine Zix (j := 0) ?_ (hj := by rfl) (hlt := by exact (by decide : 0 < 1))
          refine Ws ?_
          refine Zlq ?_ (hv := by exact NDL_at _ 0 _ rfl) (hl := by rfl)
          refine Ws ?_
          refine Zd hwr ?_
          refine Ws ?_
          refine Zbu (ys := [.int .i64 (wrN v true y).2.1, .int .i64 (h : Int)]) ?_
          refine Ws ?_
          refine ZSa (ys := [.int .i64 (wrN v true y).2.1, .int .i64 (h : Int)]) ?_ (h1 := by exact two_int _ _)
          refine Ws ?_
          rw [hR0]
          exact Zfn [blk pv 146 (viewL d (wrN v true y).1), DSK d (wrN v true y).1.S] (h := ResL.cons (Zra (rfl : [Value.int .i64 (wrN v true y).2.1, Value.int .i64 (h : Int)].length = 2)) (ResL.cons (Res1.tmp rfl) (ResL.nil))) (hq := by exact ⟨rfl, rfl⟩)
        | false =>
          refine Zz 28 true ?_
          refine Ws ?_
          refine Zix (j := 0) ?_ (hj := by rfl) (hlt := by exact (by decide : 0 < 1))
          refine Ws ?_
          refine Zlq ?_ (hv := by exact NDL_at _ 0 _ rfl) (hl := by rfl)
          refine Ws ?_
          refine Zcv hsz ?_ (hpre := by exact fun w' hw' => ⟨rdw_many Wp hmem.1 w' hw', rdw_many Wp hmem.2.1 w' hw', rdw_many Wp hmem.2.2 w' hw'⟩)
          refine Ws ?_
          refine Zz 22 false ?_ (hi := by exact decide_eq_false (fun c => hs1 ⟨rfl, by omega⟩))
          refine Ws ?_
          refine Zix (j := 0) ?_ (hj := by rfl) (hlt := by exact (by decide : 0 < 1))
          refine Ws ?_
          refine Zlq ?_ (hv := by exact NDL_at _ 0 _ rfl) (hl := by rfl)
          refine Ws ?_
          refine Zd hwr ?_
          refine Ws ?_
          refine Zbu (ys := [.int .i64 (wrN v false y).2.1, .int .i64 (h : Int)]) ?_
          refine Ws ?_
          refine ZSa (ys := [.int .i64 (wrN v false y).2.1, .int .i64 (h : Int)]) ?_ (h1 := by exact two_int _ _)
          refine Ws ?_
          rw [hR0]
          exact Zfn [blk pv 146 (viewL d (wrN v false y).1), DSK d (wrN v false y).1.S] (h := ResL.cons (Zra (rfl : [Value.int .i64 (wrN v false y).2.1, Value.int .i64 (h : Int)].length = 2)) (ResL.cons (Res1.tmp rfl) (ResL.nil))) (hq := by exact ⟨rfl, rfl⟩)
end Go.Proofs.YtcglabmlhljkmaaGreat
end
section
/- tree: nodes of one height, and as many above them as must be: the walk. -/
namespace Go.Proofs.YtcglabmlhljkmaaGreat
open Go Go.RowKit Go.Gv
set_option linter.unusedVariables false
set_option linter.unusedSimpArgs false

theorem rd_noneU (w : World) : RdW w (.slice none 0 0) 0 [] := ⟨none, 0, rfl, ⟨by simp, by decide⟩, fun j u h => by simp at h⟩
theorem rk_len {a b g n : Nat} (h1 : a + (g + 1 + 1) * 4000 ≤ 800000) (h2 : b ≤ a + 4 * n) (h3 : n ≤ 1000) : b + (g + 1) * 4000 ≤ 800000 := by rw [Nat.add_mul (g + 1) 1 4000] at h1; omega
/-- a level that is to be written -/
structure RK (R0 : VS × (Int × Nat) × Nat) where
  f : Nat
  leaf : Bool
  v : VS
  xs : List ND3
  h : Nat
  AR : Option Addr
  cr : Nat
  VV : List (Value × Value × Value)
  hR0 : roN f leaf v xs h = R0
  hG : roG f leaf v xs h
  hv : v.ok
  hl : v.S.W.length + (f + 1) * 4000 ≤ 800000
  hn : xs.length ≤ 1000
  hh : h + f ≤ 1000
  hxl : VV.length = xs.length
  hW : shp VV
  hR : ∀ x ∈ xs, ∀ e ∈ x.E, entR e
set_option maxHeartbeats 8000000 in
theorem view_root (pv d f : Nat) (v : VS) (leaf : Bool) (AR : Option Addr) (cr : Nat) (VV : List (Value × Value × Value)) (xs : List ND3) (h : Nat) (hG : roG f leaf v xs h) (hv : v.ok) (hl : v.S.W.length + (f + 1) * 4000 ≤ 800000) (hn : xs.length ≤ 1000) (hh : h + f ≤ 1000) (hxl : VV.length = xs.length) (hW : shp VV) (hR : ∀ x ∈ xs, ∀ e ∈ x.E, entR e) :
    Gv.Spec Tryz.prog 68 #[.pointer (some ⟨pv, 0, none⟩), .slice AR VV.length cr, .int .i64 (h : Int)] [blk pv 146 (viewL d v), DSK d v.S, own 125 4 (.slice AR VV.length cr) VV.length (NDL leaf VV), manyRd (RDS VV xs)]
    (fun r H' => r = .tuple #[.agg #[.int .i64 (roN f leaf v xs h).2.1.1, .int .i64 ((roN f leaf v xs h).2.1.2 : Int)], .int .i64 ((roN f leaf v xs h).2.2 : Int)] ∧ H' = [blk pv 146 (viewL d (roN f leaf v xs h).1), DSK d (roN f leaf v xs h).1.S]) := by
  refine Gv.Spec.of (fun w h0 hw => ?_)
  refine Calls.enter Tryz.func68 rfl rfl rfl hw ?_
  simp only [argSlots]
  refine Wap ?_
  obtain ⟨R0, hR0⟩ : ∃ R, R = roN f leaf v xs h := ⟨_, rfl⟩
  rw [← hR0]
  refine Ws ?_
  refine Zal fun b6 => ?_
  refine Ws ?_
  (refine Wl (α := RK R0) (fun x => x.f) (fun x => [(0, .pointer (some ⟨pv, 0, none⟩)), (1, .slice x.AR x.VV.length x.cr), (2, .int .i64 (x.h : Int)), (6, .pointer (some ⟨b6, 0, none⟩))]) (fun x => [blk b6 43 [.int .i64 0, .int .i64 0], blk pv 146 (viewL d x.v), DSK d x.v.S, own 125 4 (.slice x.AR x.VV.length x.cr) x.VV.length (NDL x.leaf x.VV), manyRd (RDS x.VV x.xs), Ex h0]) ⟨f, leaf, v, xs, h, AR, cr, VV, hR0.symm, hG, hv, hl, hn, hh, hxl, hW, hR⟩ ?_; rintro ⟨f, leaf, v, xs, h, AR, cr, VV, hR0', hG, hv, hl, hn, hh, hxl, hW, hR⟩ mx hmx; (try dsimp only at hmx ⊢))
  refine Ws ?_
  (refine Wcd ?_ ?_ <;> intro hc)
  · have hx2 : 1 < xs.length := by omega
    obtain ⟨g, rfl⟩ : ∃ g, f = g + 1 := by
      cases f with
      | zero => exact absurd hG.1 (by omega)
      | succ g => exact ⟨g, rfl⟩
    rw [roN, if_pos hx2] at hR0'
    have hG1 := hG.1 hx2
    have huc := unN_cnt (leaf := leaf) (v := v) (xs := xs)
    have hok := unGo_ok leaf xs hv
    have hln := unGo_len leaf xs v
    have hu1 : (unN leaf v xs).1 = (unGo leaf v xs).1 := rfl
    rw [← hu1] at hok hln
    have hun := view_under pv d v leaf AR cr VV xs hv hxl (by omega) (by omega) hW hR
    obtain ⟨U, hU⟩ : ∃ U, U = unN leaf v xs := ⟨_, rfl⟩
    rw [← hU] at hR0' huc hok hln hun hG1
    refine Ws ?_
    refine Zcs hun ?_
    rintro r1 H1 ⟨A, a, B, b, rfl, rfl⟩
    refine Wap ?_
    refine Ws ?_
    refine Zal fun b8 => ?_
    refine Ws ?_
    refine ZSa (ys := ndLL false (.slice none 0 0) (.slice A U.2.1.K.length a) (.slice B U.2.1.D.length b)) ?_ (h1 := by exact ndLL_one false none A B 0 0 _ a _ b)
    refine Ws ?_
    by_cases hz : U.2.2 = 0
    · refine Zz 20 false ?_ (hi := by rw [hz]; rfl)
      rw [if_pos hz] at hR0'
      obtain ⟨hUE, hUK, hUD⟩ := huc hz
      have hG2 := hG1 hz
      have hXo : okN false U.2.1 := ⟨hUE, by rw [hUK, hUD]⟩
      have hXs : szN false U.2.1 = xs.length := hUD
      have hspE := splitN_E hXo
      have hspL := splN_len (leaf := false) (szN false U.2.1 + 1) U.2.1
      obtain ⟨X, hX⟩ : ∃ X, X = U.2.1 := ⟨_, rfl⟩
      rw [← hX] at hR0' hG2 hXo hXs hspE hspL ⊢
      have hsq : splN false (szN false X + 1) X = splitN false X := rfl
      rw [hsq] at hspL
      have hE0 : X.E = [] := hXo.1
      have hsp := node_Split false (szN false X) X (.slice none 0 0) (.slice A X.K.length a) (.slice B X.D.length b) hXo (Nat.le_refl _) (by omega)
      refine Ws ?_
      refine Zla (cs := ndLL false (.slice none 0 0) (.slice A X.K.length a) (.slice B X.D.length b)) ?_ (hl := by rfl)
      refine Ws ?_
      refine Zcr hsp ?_ (hpre := by exact fun w' hw' => ⟨by rw [hE0]; exact rd_noneU w', rdw_own (v := .slice A X.K.length a) Wp w' hw', rdw_own (v := .slice B X.D.length b) Wp w' hw'⟩)
      rintro r2 H2 ⟨VS, hVS, hW2, rfl⟩
      refine Wap ?_
      (refine Tri.shape (e := 125) (size := 4) (v := r2) Wp ?_; rintro ⟨AR2, cr2, rfl⟩)
      rw [hsq] at hVS
      rw [hsq]
      refine Ws ?_
      refine Zi 2 ((h + 1 : Nat) : Int) ?_ (hi := by omega)
      have hW3 : shp VS := hW2
      have g1 := rk_len hl hln hn
      have g2 : (splitN false X).length ≤ 1000 := by omega
      have g3 : h + 1 + g ≤ 1000 := by omega
      exact Zag ⟨g, false, U.1, splitN false X, h + 1, AR2, cr2, VS, hR0', hG2, hok, g1, g2, g3, hVS, hW3, hspE⟩
    · refine Zz 20 true ?_ (hi := by rw [decide_eq_true]; omega)
      rw [if_neg hz] at hR0'
      refine Ws ?_
      refine ZSa (ys := [.int .i64 0, .int .i64 0]) ?_ (h1 := by exact two_int _ _)
      refine Ws ?_
      rw [← hR0']
      exact Zfn [blk pv 146 (viewL d U.1), DSK d U.1.S] (h := ResL.cons (Zra (rfl : [Value.int .i64 0, Value.int .i64 0].length = 2)) (ResL.cons (Res1.tmp rfl) (ResL.nil))) (hq := by exact ⟨rfl, rfl⟩)
  · have hx1 : xs.length ≤ 1 := by omega
    rw [roN_fin hx1] at hR0'
    refine Ws ?_
    by_cases hb : 5 < h
    · rw [if_pos hb] at hR0'
      refine Zz 28 true ?_ (hi := by rw [decide_eq_true]; omega)
      refine Ws ?_
      refine ZSa (ys := [.int .i64 0, .int .i64 0]) ?_ (h1 := by exact two_int _ _)
      refine Ws ?_
      rw [← hR0']
      exact Zfn [blk pv 146 (viewL d v), DSK d v.S] (h := ResL.cons (Zra (rfl : [Value.int .i64 0, Value.int .i64 0].length = 2)) (ResL.cons (Res1.tmp rfl) (ResL.nil))) (hq := by exact ⟨rfl, rfl⟩)
    · rw [if_neg hb] at hR0'
      have hsg := view_single pv d v leaf AR cr VV xs h hv (by omega) hxl hW hR (by omega) (roG_fin hx1 hG (by omega))
      rw [hR0'] at hsg
      refine Zz 28 false ?_ (hi := by exact decide_eq_false (by omega))
      refine Ws ?_
      refine Zd hsg ?_
      refine Ws ?_
      refine ZSa (ys := [.int .i64 R0.2.1.1, .int .i64 (R0.2.1.2 : Int)]) ?_ (h1 := by exact two_int _ _)
      refine Ws ?_
      exact Zfn [blk pv 146 (viewL d R0.1), DSK d R0.1.S] (h := ResL.cons (Zra (rfl : [Value.int .i64 R0.2.1.1, Value.int .i64 (R0.2.1.2 : Int)].length = 2)) (ResL.cons (Res1.tmp rfl) (ResL.nil))) (hq := by exact ⟨rfl, rfl⟩)
end Go.Proofs.YtcglabmlhljkmaaGreat
end
section
/- slices: Replace and Insert at the end (printed by mkslends.py). -/
namespace Go.Proofs.YtcglabmlhljkmaaGreat
open Go Go.RowKit Go.Gv
set_option linter.unusedVariables false
set_option linter.unusedSimpArgs false

set_option maxRecDepth 4000 in
set_option maxHeartbeats 8000000 in
theorem slices_ReplEndint (A : Option Addr) (n c i : Nat) (u : Value) (m : Nat) (xs ys : List Value) (hi : i < n) (him : n ≤ i + m) (hb : n + m ≤ 100000) (hc : 0 < m) (h1 : ∀ y ∈ ys, y.oneCell' = true) (hl : ys.length = m * 1) (hxl : xs.length = n * 1) :
    Gv.Spec Tryz.prog 150 #[.slice A n c, .int .i64 (i : Int), .int .i64 (n : Int), u] [own 3 1 (.slice A n c) n xs, own 3 1 u m ys]
    (fun r H' => ∃ A' c', r = .slice A' (i + m) c' ∧ H' = [own 3 1 (.slice A' (i + m) c') (i + m) (xs.take (i * 1) ++ ys), own 3 1 u m ys]) := by
  refine Gv.Spec.of (fun w h0 hw => ?_)
  refine Calls.enter Tryz.func150 rfl rfl rfl hw ?_
  simp only [argSlots]
  refine Wap ?_
  refine Ws ?_
  refine Zsl (lo := i) (hi := n) (m := n) (xs := xs) ?_ (hr := by exact rdw_own (v := .slice A n c) Wp)
  refine Ws ?_
  refine Zz 21 false ?_ (hi := by exact decide_eq_false (by omega))
  refine Ws ?_
  refine Zz 29 true ?_ (hi := by exact decide_eq_true rfl)
  refine Ws ?_
  refine Zsl (lo := 0) (hi := i) (m := n) (xs := xs) ?_ (hr := by exact rdw_own (v := .slice A n c) Wp)
  refine Ws ?_
  refine Tri.ownCut (v := .slice A n c) (e := 3) (size := 1) i Wp (Nat.le_of_lt hi) ?_
  refine Zap (m2 := m) (news := ys) ?_ (hr := by exact rdw_own (v := u) Wp) (hl := by exact hl) (h1 := by exact h1)
  intro vr
  (refine Tri.shape (e := 3) (size := 1) (v := vr) Wp ?_; rintro ⟨A2, c2, rfl⟩)
  refine Ws ?_
  refine Zz 39 false ?_ (hi := by exact decide_eq_false (by omega))
  refine Ws ?_
  exact Zfn [own 3 1 (.slice A2 (i + m) c2) (i + m) (xs.take (i * 1) ++ ys), own 3 1 u m ys] (hq := by exact ⟨A2, c2, rfl, rfl⟩)
set_option maxRecDepth 4000 in
set_option maxHeartbeats 8000000 in
theorem slices_ReplEndKey (A : Option Addr) (n c i : Nat) (u : Value) (m : Nat) (xs ys : List Value) (hi : i < n) (him : n ≤ i + m) (hb : n + m ≤ 100000) (hc : 0 < m) (h1 : ∀ y ∈ ys, y.oneCell' = true) (hl : ys.length = m * 2) (hxl : xs.length = n * 2) :
    Gv.Spec Tryz.prog 149 #[.slice A n c, .int .i64 (i : Int), .int .i64 (n : Int), u] [own 38 2 (.slice A n c) n xs, own 38 2 u m ys]
    (fun r H' => ∃ A' c', r = .slice A' (i + m) c' ∧ H' = [own 38 2 (.slice A' (i + m) c') (i + m) (xs.take (i * 2) ++ ys), own 38 2 u m ys]) := by
  refine Gv.Spec.of (fun w h0 hw => ?_)
  refine Calls.enter Tryz.func149 rfl rfl rfl hw ?_
  simp only [argSlots]
  refine Wap ?_
  refine Ws ?_
  refine Zsl (lo := i) (hi := n) (m := n) (xs := xs) ?_ (hr := by exact rdw_own (v := .slice A n c) Wp)
  refine Ws ?_
  refine Zz 21 false ?_ (hi := by exact decide_eq_false (by omega))
  refine Ws ?_
  refine Zz 29 true ?_ (hi := by exact decide_eq_true rfl)
  refine Ws ?_
  refine Zsl (lo := 0) (hi := i) (m := n) (xs := xs) ?_ (hr := by exact rdw_own (v := .slice A n c) Wp)
  refine Ws ?_
  refine Tri.ownCut (v := .slice A n c) (e := 38) (size := 2) i Wp (Nat.le_of_lt hi) ?_
  refine Zap (m2 := m) (news := ys) ?_ (hr := by exact rdw_own (v := u) Wp) (hl := by exact hl) (h1 := by exact h1)
  intro vr
  (refine Tri.shape (e := 38) (size := 2) (v := vr) Wp ?_; rintro ⟨A2, c2, rfl⟩)
  refine Ws ?_
  refine Zz 39 false ?_ (hi := by exact decide_eq_false (by omega))
  refine Ws ?_
  exact Zfn [own 38 2 (.slice A2 (i + m) c2) (i + m) (xs.take (i * 2) ++ ys), own 38 2 u m ys] (hq := by exact ⟨A2, c2, rfl, rfl⟩)
set_option maxRecDepth 4000 in
set_option maxHeartbeats 8000000 in
theorem slices_InsEndEntry (A : Option Addr) (n c : Nat) (u : Value) (m : Nat) (xs ys : List Value) (hb : n + m ≤ 100000) (hc : 0 < m) (h1 : ∀ y ∈ ys, y.oneCell' = true) (hl : ys.length = m * 8) :
    Gv.Spec Tryz.prog 118 #[.slice A n c, .int .i64 (n : Int), u] [own 40 8 (.slice A n c) n xs, own 40 8 u m ys]
    (fun r H' => ∃ A' c', r = .slice A' (n + m) c' ∧ H' = [own 40 8 (.slice A' (n + m) c') (n + m) (xs ++ ys), own 40 8 u m ys]) := by
  refine Gv.Spec.of (fun w h0 hw => ?_)
  refine Calls.enter Tryz.func118 rfl rfl rfl hw ?_
  simp only [argSlots]
  refine Wap ?_
  refine Ws ?_
  refine Zsl (lo := n) (hi := n) (m := n) (xs := xs) ?_ (hr := by exact rdw_own (v := .slice A n c) Wp)
  refine Ws ?_
  refine Zz 16 false ?_ (hi := by exact decide_eq_false (by omega))
  refine Ws ?_
  refine Zz 22 true ?_ (hi := by exact decide_eq_true rfl)
  refine Ws ?_
  refine Zap (m2 := m) (news := ys) ?_ (hr := by exact rdw_own (v := u) Wp) (hl := by exact hl) (h1 := by exact h1)
  intro vr
  (refine Tri.shape (e := 40) (size := 8) (v := vr) Wp ?_; rintro ⟨A2, c2, rfl⟩)
  refine Ws ?_
  exact Zfn [own 40 8 (.slice A2 (n + m) c2) (n + m) (xs ++ ys), own 40 8 u m ys] (hq := by exact ⟨A2, c2, rfl, rfl⟩)
end Go.Proofs.YtcglabmlhljkmaaGreat
end
section
/- tree: a node with others in its last child's place: the walk. -/
namespace Go.Proofs.YtcglabmlhljkmaaGreat
open Go Go.RowKit Go.Gv
set_option linter.unusedVariables false
set_option linter.unusedSimpArgs false

theorem KL_takes (l : List KEY) (i : Nat) : (KL l).take (i * 2) = KL (l.take i) := by
  have h := flat_cut (f := keyL) keyL_len5 l 0 i
  rw [Nat.zero_mul, List.drop_zero, List.drop_zero, Nat.sub_zero] at h
  exact h
theorem NL_takes (l : List Int) (i : Nat) : (NL l).take (i * 1) = NL (l.take i) := by
  rw [Nat.mul_one, NL, NL, List.map_take]
set_option maxHeartbeats 8000000 in
theorem view_replaced (pv d : Nat) (v : VS) (leaf : Bool) (A0 : Option Addr) (c0 : Nat) (A : Option Addr) (a : Nat) (B : Option Addr) (b : Nat) (y : ND3) (i c : Nat) (AR : Option Addr) (cr : Nat) (VV : List (Value × Value × Value)) (xs : List ND3)
    (hv : v.ok) (hl : v.S.W.length + 4 * xs.length ≤ 800000) (hn : xs.length ≤ 1000) (hxl : VV.length = xs.length) (hW : shp VV) (hR : ∀ x ∈ xs, ∀ e ∈ x.E, entR e)
    (hy : okN false y) (hyn : y.D.length ≤ 1000) (hi : i < y.D.length) (hic : i + c = y.D.length) (hcm : c ≤ xs.length) (hx0 : 0 < xs.length) :
    Gv.Spec Tryz.prog 111 #[.pointer (some ⟨pv, 0, none⟩), ndW false (.slice A0 y.E.length c0) (.slice A y.K.length a) (.slice B y.D.length b), .int .i64 (i : Int), .int .i64 (c : Int), .slice AR VV.length cr]
    [blk pv 146 (viewL d v), DSK d v.S, own 125 4 (.slice AR VV.length cr) VV.length (NDL leaf VV), manyRd (RDS VV xs), own 40 8 (.slice A0 y.E.length c0) y.E.length (EL y.E), own 38 2 (.slice A y.K.length a) y.K.length (KL y.K), own 3 1 (.slice B y.D.length b) y.D.length (NL y.D)]
    (fun r H' => ∃ (AZ : Option Addr) (cz : Nat) (VZ : List (Value × Value × Value)), r = .tuple #[.slice AZ VZ.length cz, .int .i64 ((rpN leaf v y i c xs).2.2 : Int)] ∧ VZ.length = (rpN leaf v y i c xs).2.1.length ∧ shp VZ
      ∧ H' = [blk pv 146 (viewL d (rpN leaf v y i c xs).1), DSK d (rpN leaf v y i c xs).1.S, own 125 4 (.slice AZ VZ.length cz) VZ.length (NDL false VZ), manyRd (RDS VZ (rpN leaf v y i c xs).2.1)]) := by
  refine Gv.Spec.of (fun w h0 hw => ?_)
  refine Calls.enter Tryz.func111 rfl rfl rfl hw ?_
  simp only [argSlots]
  refine Wap ?_
  obtain ⟨R0, hR0⟩ : ∃ R, R = rpN leaf v y i c xs := ⟨_, rfl⟩
  rw [← hR0]
  rw [rpN] at hR0
  have huc := unN_cnt (leaf := leaf) (v := v) (xs := xs)
  have hun := view_under pv d v leaf AR cr VV xs hv hxl (by omega) hl hW hR
  obtain ⟨U, hU⟩ : ∃ U, U = unN leaf v xs := ⟨_, rfl⟩
  rw [← hU] at hR0 huc hun
  obtain ⟨hyE, hyK⟩ := hy
  refine Ws ?_
  (refine Wbx ?_; intro b6)
  refine Ws ?_
  refine Zcs hun ?_
  rintro r1 H1 ⟨A1, a1, B1, b1, rfl, rfl⟩
  refine Wap ?_
  refine Ws ?_
  refine Zal fun b12 => ?_
  refine Ws ?_
  refine ZSa (ys := ndLL false (.slice none 0 0) (.slice A1 U.2.1.K.length a1) (.slice B1 U.2.1.D.length b1)) ?_ (h1 := by exact ndLL_one false none A1 B1 0 0 _ a1 _ b1)
  refine Ws ?_
  by_cases hz : U.2.2 = 0
  · refine Zz 21 false ?_ (hi := by rw [hz]; rfl)
    rw [if_pos hz] at hR0
    obtain ⟨hUE, hUK, hUD⟩ := huc hz
    obtain ⟨X, hX⟩ : ∃ X, X = U.2.1 := ⟨_, rfl⟩
    rw [← hX] at hR0 hUE hUK hUD ⊢
    obtain ⟨m, hm⟩ : ∃ m, m = xs.length := ⟨_, rfl⟩
    rw [← hm] at hUK hUD hcm hx0 hn
    obtain ⟨n, hn'⟩ : ∃ n, n = y.D.length := ⟨_, rfl⟩
    rw [← hn'] at hyn hi hic hyK
    rw [hUK, hUD, ← hn', hyK]
    have hkl : (KL y.K).length = n * 2 := KL_lens _ hyK
    have hnl : (NL y.D).length = n * 1 := NL_lens _ hn'.symm
    have hkl2 : (KL X.K).length = m * 2 := KL_lens _ hUK
    have hnl2 : (NL X.D).length = m * 1 := NL_lens _ hUD
    have hicz : (n : Int) = (i : Int) + (c : Int) := by omega
    refine Ws ?_
    refine Znm 11 [blk b12 125 (ndLL false (.slice none 0 0) (.slice A1 m a1) (.slice B1 m b1)), own 38 2 (.slice A n a) n (KL y.K)] [blk b12 125 (ndLL false (.slice none 0 0) (.slice A1 m a1) (.slice B1 m b1)), own 38 2 (.slice A n a) n (KL y.K), blk b6 125 (ndLL false (.slice A0 y.E.length c0) (.slice A n a) (.slice B n b))] ?_
    refine Wnq [0, 1, 3, 4, 5, 6, 7, 8] ?_
    refine Zna 2 ?_
    refine Zcr (slices_CloneKey (.slice A n a) n (KL y.K) hkl (KL_ones _) (by omega)) ?_ (hpre := by exact rdw_own (v := .slice A n a) Wp)
    rintro u1 H1 rfl
    refine Wap ?_
    (refine Tri.shape (e := 38) (size := 2) (v := u1) Wp ?_; rintro ⟨A3, a3, rfl⟩)
    have hrK := slices_ReplEndKey A3 n a3 i (.slice A1 m a1) m (KL y.K) (KL X.K) hi (by omega) (by omega) hx0 (KL_ones _) hkl2 hkl
    rw [hicz] at hrK
    refine Znb ?_
    refine Zna 9 ?_
    refine Zcs hrK ?_
    rintro r3 H3 ⟨A4, a4, rfl, rfl⟩
    refine Wap ?_
    refine Znb ?_
    refine Wnp [10] ?_
    refine Znl ?_
    refine ZS ?_ (hi := by exact (by decide : 2 < 4))
    refine Zw ?_
    refine ZE ?_
    refine Ws ?_
    refine Znm 11 [blk b12 125 (ndLL false (.slice none 0 0) (.slice A1 m a1) (.slice B1 m b1)), own 3 1 (.slice B n b) n (NL y.D)] [blk b12 125 (ndLL false (.slice none 0 0) (.slice A1 m a1) (.slice B1 m b1)), own 3 1 (.slice B n b) n (NL y.D), blk b6 125 (ndLL false (.slice A0 y.E.length c0) (.slice A4 (i + m) a4) (.slice B n b))] ?_
    refine Wnq [0, 1, 3, 4, 5, 6, 7, 8] ?_
    refine Zna 2 ?_
    refine Zcr (slices_Cloneint (.slice B n b) n (NL y.D) hnl (NL_one5 _) (by omega)) ?_ (hpre := by exact rdw_own (v := .slice B n b) Wp)
    rintro u2 H2 rfl
    refine Wap ?_
    (refine Tri.shape (e := 3) (size := 1) (v := u2) Wp ?_; rintro ⟨B3, b3, rfl⟩)
    have hrD := slices_ReplEndint B3 n b3 i (.slice B1 m b1) m (NL y.D) (NL X.D) hi (by omega) (by omega) hx0 (NL_one5 _) hnl2 hnl
    rw [hicz] at hrD
    refine Znb ?_
    refine Zna 9 ?_
    refine Zcs hrD ?_
    rintro r4 H4 ⟨B4, b4, rfl, rfl⟩
    refine Wap ?_
    refine Znb ?_
    refine Wnp [10] ?_
    refine Znl ?_
    refine ZS ?_ (hi := by exact (by decide : 3 < 4))
    refine Zw ?_
    refine ZE ?_
    obtain ⟨Z, hZ⟩ : ∃ Z : ND3, Z = ⟨y.E, y.K.take i ++ X.K ++ y.K.drop (i + c), y.D.take i ++ X.D ++ y.D.drop (i + c)⟩ := ⟨_, rfl⟩
    rw [← hZ] at hR0
    have hkz : (KL y.K).take (i * 2) ++ KL X.K = KL Z.K := by
      rw [hZ]
      show _ = KL (y.K.take i ++ X.K ++ y.K.drop (i + c))
      rw [List.drop_eq_nil_of_le (by omega), List.append_nil, KL_app, KL_takes]
    have hdz : (NL y.D).take (i * 1) ++ NL X.D = NL Z.D := by
      rw [hZ]
      show _ = NL (y.D.take i ++ X.D ++ y.D.drop (i + c))
      rw [List.drop_eq_nil_of_le (by omega), List.append_nil, NL_app, NL_takes]
    have hZK : Z.K.length = i + m := by
      rw [hZ]
      show (y.K.take i ++ X.K ++ y.K.drop (i + c)).length = _
      rw [List.drop_eq_nil_of_le (by omega), List.append_nil, List.length_append, List.length_take]; omega
    have hZD : Z.D.length = i + m := by
      rw [hZ]
      show (y.D.take i ++ X.D ++ y.D.drop (i + c)).length = _
      rw [List.drop_eq_nil_of_le (by omega), List.append_nil, List.length_append, List.length_take]; omega
    have hZE : Z.E = y.E := by rw [hZ]
    have hZo : okN false Z := ⟨by rw [hZE]; exact hyE, by rw [hZK, hZD]⟩
    have hZs : szN false Z = i + m := hZD
    have hsp := node_Split false (szN false Z) Z (.slice A0 y.E.length c0) (.slice A4 (i + m) a4) (.slice B4 (i + m) b4) hZo (Nat.le_refl _) (by omega)
    have hsq : splN false (szN false Z + 1) Z = splitN false Z := rfl
    refine Zat (own 38 2 (.slice A4 (i + m) a4) _ _) (own 38 2 (.slice A4 (i + m) a4) (i + m) (KL Z.K)) ?_ (e := by rw [hkz])
    refine Zat (own 3 1 (.slice B4 (i + m) b4) _ _) (own 3 1 (.slice B4 (i + m) b4) (i + m) (NL Z.D)) ?_ (e := by rw [hdz])
    refine Ws ?_
    refine Zla (cs := ndLL false (.slice A0 y.E.length c0) (.slice A4 (i + m) a4) (.slice B4 (i + m) b4)) ?_ (hl := by rfl)
    refine Ws ?_
    refine Zcr hsp ?_ (hpre := by exact fun w' hw' => ⟨by rw [hZE]; exact rdw_own (v := .slice A0 y.E.length c0) Wp w' hw', by rw [hZK]; exact rdw_own (v := .slice A4 (i + m) a4) Wp w' hw', by rw [hZD]; exact rdw_own (v := .slice B4 (i + m) b4) Wp w' hw'⟩)
    rintro r5 H5 ⟨VZ, hVZ, hWZ, rfl⟩
    refine Wap ?_
    (refine Tri.shape (e := 125) (size := 4) (v := r5) Wp ?_; rintro ⟨AZ, cz, rfl⟩)
    rw [hsq] at hVZ
    rw [hsq]
    refine Ws ?_
    rw [hR0]
    exact Zfn [blk pv 146 (viewL d U.1), DSK d U.1.S, own 125 4 (.slice AZ VZ.length cz) VZ.length (NDL false VZ), manyRd (RDS VZ (splitN false Z))] (hq := by exact ⟨AZ, cz, VZ, rfl, hVZ, hWZ, rfl⟩)
  · refine Zz 21 true ?_ (hi := by rw [decide_eq_true]; omega)
    rw [if_neg hz] at hR0
    refine Ws ?_
    (with_reducible apply Tri.ownNil 125 4)
    (with_reducible apply Tri.noneM)
    rw [hR0]
    exact Zfn [blk pv 146 (viewL d U.1), DSK d U.1.S, own 125 4 (.slice none 0 0) 0 [], manyRd []] (hq := by exact ⟨none, 0, [], rfl, rfl, (fun v hv => by cases hv), rfl⟩)
end Go.Proofs.YtcglabmlhljkmaaGreat
end
section
/- tree: the nodes of a tree, in the order in which they are gone through, in plain terms. -/
namespace Go.Proofs.YtcglabmlhljkmaaGreat
open Go Go.RowKit Go.Gv
set_option linter.unusedVariables false
set_option linter.unusedSimpArgs false

/-- where the nodes below one stand, and they -/
def wkP (S : DS) : Nat → Int → List (Int × GOT)
  | 0, _ => []
  | h + 1, a => (a, rdN S a (decide (h = 0))) :: (rdN S a (decide (h = 0))).D.flatMap (wkP S h)
theorem wkP_E (S : DS) : ∀ (h : Nat) (a : Int), (wkP S h a).flatMap (fun p => p.2.E) = wkE S h a
  | 0, _ => rfl
  | h + 1, a => by
    rw [wkP, wkE, List.flatMap_cons, List.flatMap_assoc]
    congr 1
    exact flat_congr (fun k _ => wkP_E S h k)
theorem wkg_at {α : Type} {E : Int → List α} : ∀ (D : List Int) (j k : Nat) (d : Int), D[j]? = some d → k < (E d).length → (D.flatMap E)[((D.take j).flatMap E).length + k]? = (E d)[k]?
  | [], _, _, _, h, _ => by simp at h
  | x :: D, 0, k, d, h, hk => by
    simp at h; subst h
    simp only [List.take_zero, List.flatMap_nil, List.length_nil, Nat.zero_add, List.flatMap_cons]
    rw [List.getElem?_append_left hk]
  | x :: D, j + 1, k, d, h, hk => by
    have ih := wkg_at (E := E) D j k d (by simpa using h) hk
    simp only [List.take_succ_cons, List.flatMap_cons, List.length_append]
    rw [List.getElem?_append_right (by omega), show (E x).length + ((D.take j).flatMap E).length + k - (E x).length = ((D.take j).flatMap E).length + k by omega, ih]
theorem wkg_take {α : Type} {E : Int → List α} {D : List Int} {j : Nat} {d : Int} (h : D[j]? = some d) : ((D.take (j + 1)).flatMap E).length = ((D.take j).flatMap E).length + (E d).length := by
  rw [List.take_add_one, h]; simp
end Go.Proofs.YtcglabmlhljkmaaGreat
end
section
/- tree: each, All: the walk. -/
namespace Go.Proofs.YtcglabmlhljkmaaGreat
open Go Go.RowKit Go.Gv
set_option linter.unusedVariables false
set_option linter.unusedSimpArgs false

/-- what goes through the nodes below one of that height -/
def eachT (pv d : Nat) (v : VS) (h : Nat) (a : Int) : Prop := ∀ (gf : FuncId) [TFn Tryz.prog gf] (lb : List Value) (I : Nat → Atom),
    (∀ (k : Nat) (q : Int × GOT), (wkP v.S h a)[k]? = some q → ∀ (A : Option Addr) (c : Nat) (B : Option Addr) (b : Nat) (C : Option Addr) (e : Nat),
      Gv.Spec Tryz.prog gf ([.int .i64 q.1, ndW q.2.leaf (.slice A q.2.E.length c) (.slice B q.2.K.length b) (.slice C q.2.D.length e)] ++ lb).toArray [I k, own 40 8 (.slice A q.2.E.length c) q.2.E.length (EL q.2.E)] (fun _ H' => H' = [I (k + 1), own 40 8 (.slice A q.2.E.length c) q.2.E.length (EL q.2.E)])) →
    Gv.Spec Tryz.prog 62 #[.pointer (some ⟨pv, 0, none⟩), .int .i64 a, .int .i64 (h : Int), .func (.func gf) #[] lb.toArray]
      [I 0, blk pv 146 (viewL d v), DSK d v.S] (fun r H' => r = .int .i64 0 ∧ H' = [I (wkP v.S h a).length, blk pv 146 (viewL d v), DSK d v.S])
set_option maxHeartbeats 16000000 in
theorem tree_each_step (pv d : Nat) (v : VS) (hv : v.ok) (hl : v.S.W.length ≤ 1000000) (h : Nat) (a : Int) (hg : wkG v.S (h + 1) a) (hh : h ≤ 1000)
    (ih : ∀ k ∈ (rdN v.S a (decide (h = 0))).D, eachT pv d v h k) : eachT pv d v (h + 1) a := by
  intro gf _ lb I hI
  refine Gv.Spec.of (fun w h0 hw => ?_)
  refine Calls.enter Tryz.func62 rfl rfl rfl hw ?_
  simp only [argSlots]
  refine Wap ?_
  obtain ⟨ha, he, hEl, hDl, _⟩ := hg
  have hP : wkP v.S (h + 1) a = (a, rdN v.S a (decide (h = 0))) :: (rdN v.S a (decide (h = 0))).D.flatMap (wkP v.S h) := rfl
  rw [hP] at hI ⊢
  refine Ws ?_
  refine Zz 18 (decide (h = 0)) ?_ (hi := by exact decide_eq_decide.2 (by omega))
  refine Zcs (view_Node pv d v a (decide (h = 0)) hv hl ha) ?_
  rintro r1 H1 ⟨A, c, B, b, C, e, rfl, rfl⟩
  refine Wap ?_
  have hI0 := hI 0 (a, rdN v.S a (decide (h = 0))) rfl A c B b C e
  generalize rdN v.S a (decide (h = 0)) = G at *
  refine Ws ?_
  refine Zal fun b9 => ?_
  refine Ws ?_
  refine ZSa (ys := ndLL G.leaf (.slice A G.E.length c) (.slice B G.K.length b) (.slice C G.D.length e)) ?_ (h1 := by exact ndLL_one G.leaf A B C _ c _ b _ e)
  refine Ws ?_
  refine Zz 23 false ?_ (hi := by rw [he]; rfl)
  refine Ws ?_
  refine Zla (cs := ndLL G.leaf (.slice A G.E.length c) (.slice B G.K.length b) (.slice C G.D.length e)) ?_ (hl := by rfl)
  refine Ws ?_
  refine Zcf hI0 ?_
  rintro r2 H2 rfl
  refine Wap ?_
  refine Ws ?_
  have hz : I (0 + 1) = I (1 + ((G.D.take 0).flatMap (wkP v.S h)).length) := rfl
  rw [hz]
  (refine Wl (α := { j : Nat // j ≤ G.D.length }) (fun x => G.D.length - x.1) (fun x => [(0, .pointer (some ⟨pv, 0, none⟩)), (2, .int .i64 ((h + 1 : Nat) : Int)), (3, .func (.func gf) #[] lb.toArray), (30, .slice C G.D.length e), (31, .int .i64 (G.D.length : Int)), (32, .int .i64 (x.1 : Int))]) (fun x => [I (1 + ((G.D.take x.1).flatMap (wkP v.S h)).length), blk pv 146 (viewL d v), DSK d v.S, own 3 1 (.slice C G.D.length e) G.D.length (NL G.D), Ex h0]) ⟨0, Nat.zero_le _⟩ ?_; rintro ⟨j, hj⟩ mx hmx; (try dsimp only at hmx ⊢))
  refine Ws ?_
  (refine Wcd ?_ ?_ <;> intro hc)
  · have hjl : j < G.D.length := by omega
    have hjl' : j + 1 ≤ G.D.length := hjl
    obtain ⟨kd, hkd⟩ : ∃ kd, G.D[j]? = some kd := ⟨G.D[j]'hjl, List.getElem?_eq_getElem hjl⟩
    have hmem : kd ∈ G.D := List.mem_of_getElem? hkd
    have hNj : (NL G.D)[j]? = some (.int .i64 kd) := by rw [nl_get, hkd]; rfl
    have hoff := wkg_take (E := wkP v.S h) hkd
    have hcall := ih kd hmem gf lb (fun k => I (1 + ((G.D.take j).flatMap (wkP v.S h)).length + k)) (fun k q hq => by
      have hlt : k < (wkP v.S h kd).length := (List.getElem?_eq_some_iff.1 hq).1
      have h1 := wkg_at (E := wkP v.S h) G.D j k kd hkd hlt
      have h2 := hI (1 + ((G.D.take j).flatMap (wkP v.S h)).length + k) q (by
        rw [show 1 + ((G.D.take j).flatMap (wkP v.S h)).length + k = ((G.D.take j).flatMap (wkP v.S h)).length + k + 1 by omega, List.getElem?_cons_succ, h1]; exact hq)
      exact h2)
    have e1 : 1 + ((G.D.take j).flatMap (wkP v.S h)).length + (wkP v.S h kd).length = 1 + ((G.D.take (j + 1)).flatMap (wkP v.S h)).length := by omega
    rw [e1] at hcall
    refine Ws ?_
    refine Zix (j := j) ?_ (hj := by rfl) (hlt := by exact hjl)
    refine Ws ?_
    refine Zlo (j := j * 1) ?_ (hv := by exact (by rw [Nat.mul_one]; exact hNj))
    refine Ws ?_
    refine Zi 39 (h : Int) ?_ (hi := by omega)
    refine Ws ?_
    refine Zd hcall ?_
    refine Ws ?_
    refine Zz 43 false ?_
    refine Ws ?_
    refine Zi 32 ((j + 1 : Nat) : Int) ?_ (hi := by omega)
    exact Zag ⟨j + 1, hjl'⟩
  · have hjl : j = G.D.length := by omega
    have e2 : I (1 + ((G.D.take j).flatMap (wkP v.S h)).length) = I (((a, G) :: G.D.flatMap (wkP v.S h)).length) := by
      rw [hjl, List.take_length, List.length_cons, Nat.add_comm]
    rw [e2]
    refine Ws ?_
    exact Zfn [I (((a, G) :: G.D.flatMap (wkP v.S h)).length), blk pv 146 (viewL d v), DSK d v.S] (hq := by exact ⟨rfl, rfl⟩)
theorem tree_each (pv d : Nat) (v : VS) (hv : v.ok) (hl : v.S.W.length ≤ 1000000) : ∀ (h : Nat) (a : Int), wkG v.S h a → h ≤ 1000 → eachT pv d v h a
  | 0, _, hg, _ => hg.elim
  | h + 1, a, hg, hh => tree_each_step pv d v hv hl h a hg (by omega) (fun k hk => tree_each pv d v hv hl h k (hg.2.2.2.2 k hk) (by omega))
end Go.Proofs.YtcglabmlhljkmaaGreat
end
section
/- tree: All: the walk. -/
namespace Go.Gv
open Go Go.RowKit
set_option linter.unusedVariables false
theorem spec_exA {α β : Type} {P : Program} {f : FuncId} {args : Array Value} {A : α → List Atom} {B : β → List Atom} {Pre Post : List Atom}
    (h : ∀ x, Spec P f args (A x ++ Pre) (fun _ H' => ∃ y, H' = B y ++ Post)) : Spec P f args (exA (fun x => star (A x)) :: Pre) (fun _ H' => H' = exA (fun y => star (B y)) :: Post) := fun w0 w H hw => by
  obtain ⟨x, h1⟩ := St.exA hw
  have h2 : St w0 w ((A x ++ Pre) ++ H) := by rw [List.append_assoc]; exact St.unstar h1
  refine (h x w0 w H h2).mono ?_
  intro e w' he
  cases e with
  | returned v =>
    obtain ⟨H', ⟨y, rfl⟩, h3⟩ := he
    refine ⟨_, rfl, ?_⟩
    rw [List.append_assoc] at h3
    exact St.toExA (A := fun y => star (B y)) y (St.star h3)
  | panicked c => exact he
  | outgrown => exact he
theorem Tri.toExA {α : Type} {P : Program} {w0 : World} {G : Act → World → Prop} {n : NT} {L : Slots} {H H' : List Atom} {A : α → List Atom} (x : α) (p : Pulls H (A x) H') (h : Tri w0 G n L (Gv.exA (fun y => Gv.star (A y)) :: H')) : Tri w0 G n L H :=
  Tri.conv (fun w hw => St.toExA (A := fun y => Gv.star (A y)) x (St.star ⟨(hw.pulls p).1, (hw.pulls p).2⟩)) h
end Go.Gv
namespace Go.Proofs.YtcglabmlhljkmaaGreat
open Go Go.RowKit Go.Gv
set_option linter.unusedVariables false
set_option linter.unusedSimpArgs false

set_option maxHeartbeats 8000000 in
theorem tree_all1 (a : Int) (lf : Bool) (kv dv : Value) (A : Option Addr) (c : Nat) (E o : List ENT) (b7 : Nat) (A' : Option Addr) (c' : Nat) (hb : o.length + E.length ≤ 1000000) :
    Gv.Spec Tryz.prog 63 #[.int .i64 a, ndW lf (.slice A E.length c) kv dv, .pointer (some ⟨b7, 0, none⟩)]
      ([blk b7 29 [.slice A' o.length c'], own 40 8 (.slice A' o.length c') o.length (EL o)] ++ [own 40 8 (.slice A E.length c) E.length (EL E)])
      (fun _ H' => ∃ z : Option Addr × Nat, H' = [blk b7 29 [.slice z.1 (o ++ E).length z.2], own 40 8 (.slice z.1 (o ++ E).length z.2) (o ++ E).length (EL (o ++ E))] ++ [own 40 8 (.slice A E.length c) E.length (EL E)]) := by
  refine Gv.Spec.of (fun w h0 hw => ?_)
  refine Calls.enter Tryz.func63 rfl rfl rfl hw ?_
  simp only [argSlots]
  refine Wap ?_
  refine Ws ?_
  (refine Wbx ?_; intro b4)
  refine Ws ?_
  refine Zap (m2 := E.length) (news := EL E) ?_ (hr := by exact rdw_own (v := .slice A E.length c) Wp) (hl := by exact EL_length E) (h1 := by exact EL_ones E)
  intro vr
  (refine Tri.shape (e := 40) (size := 8) (v := vr) Wp ?_; rintro ⟨A2, c2, rfl⟩)
  refine Ws ?_
  refine ZS ?_ (hi := by exact (by decide : 0 < 1))
  have hl' : (o ++ E).length = o.length + E.length := List.length_append
  refine Zat (own 40 8 (.slice A2 (o.length + E.length) c2) _ _) (own 40 8 (.slice A2 (o ++ E).length c2) (o ++ E).length (EL (o ++ E))) ?_ (e := by rw [EL_app, hl'])
  refine Zat (blk b7 _ _) (blk b7 29 [.slice A2 (o ++ E).length c2]) ?_ (e := by rw [hl']; rfl)
  refine Ws ?_
  (first | with_reducible apply Tri.fin | with_reducible apply Tri.finN)
  case hr => rfl
  case h => exact ResL.nil
  apply fin_R (Hn := [blk b7 29 [.slice A2 (o ++ E).length c2], own 40 8 (.slice A2 (o ++ E).length c2) (o ++ E).length (EL (o ++ E)), own 40 8 (.slice A E.length c) E.length (EL E)])
  case p => exact Wps
  exact ⟨(A2, c2), rfl⟩
/-- what All holds behind the k-th node -/
def allI (b7 : Nat) (P : List (Int × GOT)) (k : Nat) : Atom := Gv.exA (fun z : Option Addr × Nat => Gv.star [blk b7 29 [.slice z.1 ((P.take k).flatMap fun p => p.2.E).length z.2], own 40 8 (.slice z.1 ((P.take k).flatMap fun p => p.2.E).length z.2) ((P.take k).flatMap fun p => p.2.E).length (EL ((P.take k).flatMap fun p => p.2.E))])
section
variable {P : Program} {w0 : World} {n : NT} {L : Slots} {H H' : List Atom} {G : Act → World → Prop}
theorem to_allI {b7 : Nat} {Q : List (Int × GOT)} (p : Pulls H [blk b7 29 [.slice none 0 0], own 40 8 (.slice none 0 0) 0 []] H') (h : Tri w0 G n L (allI b7 Q 0 :: H')) : Tri w0 G n L H :=
  Tri.toExA (P := Tryz.prog) (A := fun z : Option Addr × Nat => [blk b7 29 [.slice z.1 ((Q.take 0).flatMap fun p => p.2.E).length z.2], own 40 8 (.slice z.1 ((Q.take 0).flatMap fun p => p.2.E).length z.2) ((Q.take 0).flatMap fun p => p.2.E).length (EL ((Q.take 0).flatMap fun p => p.2.E))]) (none, 0) p h
theorem of_allI {b7 k : Nat} {Q : List (Int × GOT)} {es : List ENT} (he : (Q.take k).flatMap (fun p => p.2.E) = es) (p : Pull H (allI b7 Q k) H') (h : ∀ A c, Tri w0 G n L ([blk b7 29 [.slice A es.length c], own 40 8 (.slice A es.length c) es.length (EL es)] ++ H')) : Tri w0 G n L H := by
  subst he
  exact Tri.exA p (fun z => Tri.unstar .head (h z.1 z.2))
end
theorem all_spec (b7 : Nat) (Q : List (Int × GOT)) (hb : (Q.flatMap fun p => p.2.E).length ≤ 1000000) (k : Nat) (q : Int × GOT) (hq : Q[k]? = some q) (A : Option Addr) (c : Nat) (B : Option Addr) (b : Nat) (C : Option Addr) (e : Nat) :
    Gv.Spec Tryz.prog 63 ([Value.int .i64 q.1, ndW q.2.leaf (.slice A q.2.E.length c) (.slice B q.2.K.length b) (.slice C q.2.D.length e)] ++ [Value.pointer (some ⟨b7, 0, none⟩)]).toArray [allI b7 Q k, own 40 8 (.slice A q.2.E.length c) q.2.E.length (EL q.2.E)] (fun _ H' => H' = [allI b7 Q (k + 1), own 40 8 (.slice A q.2.E.length c) q.2.E.length (EL q.2.E)]) := by
  have hs : (Q.take (k + 1)).flatMap (fun p => p.2.E) = (Q.take k).flatMap (fun p => p.2.E) ++ q.2.E := by rw [List.take_add_one, hq]; simp
  have hbb : ((Q.take k).flatMap fun p => p.2.E).length + q.2.E.length ≤ 1000000 := by
    have h1 : ((Q.take (k + 1)).flatMap fun p => p.2.E).length ≤ (Q.flatMap fun p => p.2.E).length := by
      conv => rhs; rw [← List.take_append_drop (k + 1) Q]
      rw [List.flatMap_append, List.length_append]; omega
    rw [hs, List.length_append] at h1; omega
  have := spec_exA (P := Tryz.prog) (f := 63) (A := fun z : Option Addr × Nat => [blk b7 29 [.slice z.1 ((Q.take k).flatMap fun p => p.2.E).length z.2], own 40 8 (.slice z.1 ((Q.take k).flatMap fun p => p.2.E).length z.2) ((Q.take k).flatMap fun p => p.2.E).length (EL ((Q.take k).flatMap fun p => p.2.E))])
    (B := fun z : Option Addr × Nat => [blk b7 29 [.slice z.1 ((Q.take k).flatMap (fun p => p.2.E) ++ q.2.E).length z.2], own 40 8 (.slice z.1 ((Q.take k).flatMap (fun p => p.2.E) ++ q.2.E).length z.2) ((Q.take k).flatMap (fun p => p.2.E) ++ q.2.E).length (EL ((Q.take k).flatMap (fun p => p.2.E) ++ q.2.E))])
    (fun z => tree_all1 q.1 q.2.leaf (.slice B q.2.K.length b) (.slice C q.2.D.length e) A c q.2.E ((Q.take k).flatMap fun p => p.2.E) b7 z.1 z.2 hbb)
  rw [← hs] at this
  exact this
set_option maxHeartbeats 8000000 in
theorem tree_All (pv d : Nat) (v : VS) (hv : v.ok) (hl : v.S.W.length ≤ 1000000) (h : Nat) (a : Int) (hh : h ≤ 5) (hg : h = 0 ∨ wkG v.S h a) (hlen : (wkE v.S h a).length ≤ 1000000) :
    Gv.Spec Tryz.prog 15 #[.pointer (some ⟨pv, 0, none⟩), rootV a (h : Int)] [blk pv 146 (viewL d v), DSK d v.S]
    (fun r H' => ∃ A c, r = .tuple #[.slice A (wkE v.S h a).length c, .int .i64 0] ∧ H' = [blk pv 146 (viewL d v), DSK d v.S, own 40 8 (.slice A (wkE v.S h a).length c) (wkE v.S h a).length (EL (wkE v.S h a))]) := by
  refine Gv.Spec.of (fun w h0 hw => ?_)
  refine Calls.enter Tryz.func15 rfl rfl rfl hw ?_
  simp only [argSlots]
  refine Wap ?_
  refine Ws ?_
  (refine Wbx ?_; intro b3)
  refine Ws ?_
  refine Zla (cs := rootL a (h : Int)) ?_ (hl := by rfl)
  refine Ws ?_
  refine Zcv (view_may pv a h hh) ?_
  refine Ws ?_
  refine Zz 14 false ?_
  refine Ws ?_
  rcases Nat.eq_zero_or_pos h with h00 | hpos
  · subst h00
    refine Zz 18 true ?_
    refine Ws ?_
    (with_reducible apply Tri.ownNil 40 8)
    exact Zfn [blk pv 146 (viewL d v), DSK d v.S, own 40 8 (.slice none 0 0) 0 []] (hq := by exact ⟨none, 0, rfl, rfl⟩)
  · have hg' : wkG v.S h a := by rcases hg with q | q; omega; exact q
    have hPE := wkP_E v.S h a
    have heach := tree_each pv d v hv hl h a hg' (by omega) 63
    generalize wkP v.S h a = P at hPE heach
    refine Zz 18 false ?_ (hi := by exact decide_eq_false (by omega))
    refine Ws ?_
    refine Zal fun b7 => ?_
    refine Ws ?_
    refine ZomakeFunc (vs := [.pointer (some ⟨b7, 0, none⟩)]) ?_ (hc := by exact ⟨rfl, trivial⟩)
    refine Ws ?_
    have hcall := heach [.pointer (some ⟨b7, 0, none⟩)] (allI b7 P) (all_spec b7 P (by rw [hPE]; exact hlen))
    (with_reducible apply Tri.ownNil 40 8)
    refine Zat (blk b7 _ _) (blk b7 29 [.slice none 0 0]) ?_
    refine to_allI (b7 := b7) (Q := P) Wps ?_
    refine Zd hcall ?_
    refine of_allI (he := show (P.take P.length).flatMap (fun p => p.2.E) = wkE v.S h a by rw [List.take_length]; exact hPE) Wp (fun A c => ?_)
    refine Wap ?_
    refine Ws ?_
    refine Zz 28 false ?_
    refine Ws ?_
    exact Zfn [blk pv 146 (viewL d v), DSK d v.S, own 40 8 (.slice A (wkE v.S h a).length c) (wkE v.S h a).length (EL (wkE v.S h a))] (hq := by exact ⟨A, c, rfl, rfl⟩)
end Go.Proofs.YtcglabmlhljkmaaGreat
end
section
/- tree: where an entry belongs among others; a root that is written: the walk. -/
namespace Go.Proofs.YtcglabmlhljkmaaGreat
open Go Go.RowKit Go.Gv
set_option linter.unusedVariables false
set_option linter.unusedSimpArgs false

theorem key_cells (e : ENT) : ((entL e).drop (0 + 0)).take 2 = keyL e.key := rfl
set_option maxHeartbeats 4000000 in
theorem tree_insert1 (x y : ENT) (b7 : Nat) :
    Gv.Spec Tryz.prog 117 #[entV y, .pointer (some ⟨b7, 0, none⟩)] [blk b7 40 (entL x)] (fun r H' => r = .bool (lessK x.key y.key) ∧ H' = [blk b7 40 (entL x)]) := by
  refine Gv.Spec.of (fun w h0 hw => ?_)
  refine Calls.enter Tryz.func117 rfl rfl rfl hw ?_
  simp only [argSlots]
  refine Wap ?_
  refine Ws ?_
  (refine Wbx ?_; intro b2)
  refine Ws ?_
  refine Zlg ?_ (hv := by exact key_cells x) (hl := by rfl)
  refine Ws ?_
  refine Zlg ?_ (hv := by exact key_cells y) (hl := by rfl)
  refine Ws ?_
  refine Zcv (node_Less x.key y.key) ?_
  refine Ws ?_
  exact Zfn [blk b7 40 (entL x)] (hq := by exact ⟨rfl, rfl⟩)
set_option maxHeartbeats 8000000 in
theorem slices_IndexFuncE (A : Option Addr) (c : Nat) (E : List ENT) (x : ENT) (b7 : Nat) (hb : E.length ≤ 1000000) :
    Gv.Spec Tryz.prog 116 #[.slice A E.length c, .func (.func 117) #[] #[.pointer (some ⟨b7, 0, none⟩)]] [blk b7 40 (entL x), own 40 8 (.slice A E.length c) E.length (EL E)]
    (fun r H' => r = .int .i64 (if idxE E x.key < E.length then (idxE E x.key : Int) else -1) ∧ H' = [blk b7 40 (entL x), own 40 8 (.slice A E.length c) E.length (EL E)]) := by
  refine Gv.Spec.of (fun w h0 hw => ?_)
  refine Calls.enter Tryz.func116 rfl rfl rfl hw ?_
  simp only [argSlots]
  refine Wap ?_
  refine Ws ?_
  (refine Wl (α := Σ' (i : Nat) (f : Nat), f + i = E.length + 1 ∧ i ≤ E.length ∧ idxGo E x.key f i = idxE E x.key) (fun z => E.length - z.1) (fun z => [(0, .slice A E.length c), (1, .func (.func 117) #[] #[.pointer (some ⟨b7, 0, none⟩)]), (7, .int .i64 (E.length : Int)), (8, .int .i64 (z.1 : Int))]) (fun z => [blk b7 40 (entL x), own 40 8 (.slice A E.length c) E.length (EL E), Ex h0]) ⟨0, E.length + 1, rfl, Nat.zero_le _, rfl⟩ ?_; rintro ⟨i, f, hf, hi, hg⟩ mx hmx; (try dsimp only at hmx ⊢))
  obtain ⟨g, rfl⟩ : ∃ g, f = g + 1 := ⟨f - 1, by omega⟩
  rw [idxGo] at hg
  refine Ws ?_
  (refine Wcd ?_ ?_ <;> intro hc)
  · have hil : i < E.length := by omega
    have hil' : i + 1 ≤ E.length := hil
    have hf' : g + (i + 1) = E.length + 1 := by omega
    rw [if_pos hil] at hg
    obtain ⟨y, hy⟩ : ∃ y, y = E.getD i ent0 := ⟨_, rfl⟩
    have hE8 : ((EL E).drop (i * 8)).take 8 = entL y := by rw [hy]; exact EL_eight E i hil
    rw [← hy] at hg
    have hcl : Gv.Spec Tryz.prog 117 ([entV y] ++ [Value.pointer (some ⟨b7, 0, none⟩)]).toArray _ _ := tree_insert1 x y b7
    refine Ws ?_
    refine Zix (j := i) ?_ (hj := by rfl) (hlt := by exact hil)
    refine Ws ?_
    refine Zlq (ys := entL y) ?_ (hv := by exact hE8) (hl := by rfl)
    refine Ws ?_
    refine Zcf hcl ?_
    rintro r3 H3 ⟨rfl, rfl⟩
    refine Wap ?_
    refine Ws ?_
    cases hq : lessK x.key y.key with
    | true =>
      rw [if_pos hq] at hg
      refine Ws ?_
      rw [← hg, if_pos hil]
      exact Zfn [blk b7 40 (entL x), own 40 8 (.slice A E.length c) E.length (EL E)] (hq := by exact ⟨rfl, rfl⟩)
    | false =>
      rw [if_neg (by rw [hq]; simp)] at hg
      refine Ws ?_
      refine Zi 8 ((i + 1 : Nat) : Int) ?_ (hi := by omega)
      exact Zag ⟨i + 1, g, hf', hil', hg⟩
  · have hil : ¬ i < E.length := by omega
    rw [if_neg hil] at hg
    refine Ws ?_
    rw [← hg, if_neg (Nat.lt_irrefl _)]
    exact Zfn [blk b7 40 (entL x), own 40 8 (.slice A E.length c) E.length (EL E)] (hq := by exact ⟨rfl, rfl⟩)
end Go.Proofs.YtcglabmlhljkmaaGreat
end
