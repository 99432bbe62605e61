import Derived.Test.YtckdlfbbkemklaaZE
import Derived.Test.YtckdlfbbkemklaaZDvWalk2
/- super: a super whose writing is torn, in plain terms. -/
namespace Go.Proofs.Ytckdlfbbkemklaa
open Go Go.RowKit Go.Gv
set_option linter.unusedVariables false
set_option linter.unusedSimpArgs false

theorem putAt_out (A : List UInt8) (p : Nat) (b : List UInt8) (j : Nat) (h : p + b.length ≤ A.length) (hj : j < p ∨ p + b.length ≤ j) : (putAt A p b)[j]? = A[j]? := by
  unfold putAt
  have hlt : (A.take p).length = p := by rw [List.length_take]; omega
  rcases hj with hj | hj
  · rw [List.append_assoc, List.getElem?_append_left (by omega), List.getElem?_take, if_pos hj]
  · rw [List.getElem?_append_right (by rw [List.length_append]; omega), List.getElem?_drop, List.length_append, hlt]
    congr 1; omega
theorem keepTo_out {A : List UInt8} {i : Nat} {b : List UInt8} {atoms : UInt8} (hi : i * 64 + 64 ≤ A.length) (hb : b.length = 64) (j : Nat) (hj : j < i * 64 ∨ i * 64 + 64 ≤ j) : ∀ k, k ≤ 8 → (keepTo A i b atoms k)[j]? = A[j]?
  | 0, _ => rfl
  | k + 1, hk => by
    have ih := keepTo_out hi hb j hj k (by omega) (atoms := atoms)
    have hl : ((b.drop (k * 8)).take 8).length = 8 := by rw [List.length_take, List.length_drop]; omega
    have hkl := keepTo_length hi hb k (by omega) (atoms := atoms)
    rw [keepTo]; split
    · rw [putAt_out _ _ _ _ (by omega) (by omega), ih]
    · exact ih
theorem keepM_out {A : List UInt8} {i : Nat} {b : List UInt8} {f : Bool × UInt8} (hi : i * 64 + 64 ≤ A.length) (hb : b.length = 64) (j : Nat) (hj : j < i * 64 ∨ i * 64 + 64 ≤ j) : (keepM A i b f)[j]? = A[j]? := by
  unfold keepM; split
  · exact keepTo_out hi hb j hj 8 (Nat.le_refl _)
  · rfl
theorem crashTo_out {A : List UInt8} {W : List WW} {F : List (Bool × UInt8)} (hW : WOk A.length W) (j : Nat) (hj : ∀ x ∈ W, j < x.i * 64 ∨ x.i * 64 + 64 ≤ j) : ∀ k, (crashTo A W F k)[j]? = A[j]?
  | 0 => rfl
  | k + 1 => by
    have ih := crashTo_out hW j hj k (F := F)
    have hl := crashTo_length hW k (F := F)
    rw [crashTo]; split
    · rename_i x f hx hf
      have hm := List.mem_of_getElem? hx
      obtain ⟨h1, h2⟩ := hW x hm
      rw [keepM_out (by omega) h2 j (hj x hm), ih]
    · exact ih
theorem bit_all : ∀ k, k < 8 → keepTo.bit8' 255 k = true := by decide
theorem bit_none : ∀ k, k < 8 → keepTo.bit8' 0 k = false := by decide
theorem keepTo_all {A : List UInt8} {i : Nat} {b : List UInt8} (hi : i * 64 + 64 ≤ A.length) (hb : b.length = 64) : ∀ k, k ≤ 8 → keepTo A i b 255 k = putAt A (i * 64) (b.take (k * 8))
  | 0, _ => by
    show A = putAt A (i * 64) (b.take 0)
    rw [List.take_zero]
    unfold putAt
    rw [List.append_nil, List.length_nil, Nat.add_zero, List.take_append_drop]
  | k + 1, hk => by
    have ih := keepTo_all hi hb k (by omega)
    have hl : (b.take (k * 8)).length = k * 8 := by rw [List.length_take]; omega
    rw [keepTo, if_pos (bit_all k (by omega)), ih]
    have e := putAt_putAt A (i * 64) (b.take (k * 8)) ((b.drop (k * 8)).take 8) (by omega)
    rw [hl] at e
    rw [e]
    congr 1
    rw [← List.take_add]
    congr 1; omega
theorem keepTo_none {A : List UInt8} {i : Nat} {b : List UInt8} : ∀ k, k ≤ 8 → keepTo A i b 0 k = A
  | 0, _ => rfl
  | k + 1, hk => by
    rw [keepTo, if_neg (by rw [bit_none k (by omega)]; simp), keepTo_none k (by omega)]
theorem keepM_all {A : List UInt8} {i : Nat} {b : List UInt8} (hi : i * 64 + 64 ≤ A.length) (hb : b.length = 64) : keepM A i b (true, 255) = putAt A (i * 64) b := by
  have h := keepTo_all hi hb 8 (Nat.le_refl _)
  rw [List.take_of_length_le (by omega)] at h
  unfold keepM
  rw [if_pos rfl]
  exact h
theorem keepM_none {A : List UInt8} {i : Nat} {b : List UInt8} {f : Bool × UInt8} (hf : f.1 = false ∨ f.2 = 0) : keepM A i b f = A := by
  obtain ⟨f1, f2⟩ := f
  rcases hf with hf | hf
  · simp only at hf
    subst hf; rfl
  · simp only at hf
    subst hf
    cases f1
    · rfl
    · show keepTo A i b 0 8 = A
      exact keepTo_none 8 (Nat.le_refl _)
theorem crashTo_none {A : List UInt8} {W : List WW} {F : List (Bool × UInt8)} (hF : ∀ f ∈ F, f.1 = false ∨ f.2 = 0) : ∀ k, crashTo A W F k = A
  | 0 => rfl
  | k + 1 => by
    rw [crashTo]; split
    · rename_i x f hx hf
      rw [keepM_none (hF f (List.mem_of_getElem? hf)), crashTo_none hF k]
    · exact crashTo_none hF k
theorem crashTo_all {A : List UInt8} {W : List WW} {F : List (Bool × UInt8)} (hW : WOk A.length W) (hl : W.length ≤ F.length) (hF : ∀ f ∈ F, f = (true, 255)) : ∀ k, k ≤ W.length → crashTo A W F k = flushM A (W.take k)
  | 0, _ => rfl
  | k + 1, hk => by
    have ih := crashTo_all hW hl hF k (by omega)
    have hlt : k < W.length := by omega
    have hlf : k < F.length := by omega
    have hx := hW _ (List.getElem_mem hlt)
    have hcl := crashTo_length hW k (F := F)
    rw [crashTo, List.getElem?_eq_getElem hlt, List.getElem?_eq_getElem hlf]
    show keepM (crashTo A W F k) (W[k]'hlt).i (W[k]'hlt).b (F[k]'hlf) = _
    rw [hF _ (List.getElem_mem hlf), keepM_all (by omega) hx.2, ih, flushM, flushM, List.take_succ_eq_append_getElem hlt, List.foldl_append]
    rfl
/-- what waits, of bytes that are written -/
def wl (i : Nat) : List (List UInt8) → List (Nat × List UInt8)
  | [] => []
  | b :: bs => (i, b) :: wl (i + 1) bs
theorem wl_mem : ∀ (bs : List (List UInt8)) (i : Nat) (x : Nat × List UInt8), x ∈ wl i bs → i ≤ x.1 ∧ x.1 < i + bs.length ∧ x.2 ∈ bs
  | [], _, x, h => by cases h
  | b :: bs, i, x, h => by
    rcases List.mem_cons.1 h with rfl | h
    · exact ⟨Nat.le_refl _, by simp, List.mem_cons_self ..⟩
    · have := wl_mem bs (i + 1) x h
      refine ⟨by omega, ?_, List.mem_cons_of_mem _ this.2.2⟩
      rw [List.length_cons]; omega
theorem wl_length : ∀ (bs : List (List UInt8)) (i : Nat), (wl i bs).length = bs.length
  | [], _ => rfl
  | b :: bs, i => by rw [wl, List.length_cons, wl_length bs, List.length_cons]
theorem DS.wrs_W : ∀ (bs : List (List UInt8)) (S : DS) (i : Nat), S.off = false → S.till = -1 → (∀ b ∈ bs, b.length = 64) → i * 64 + bs.length * 64 ≤ S.A.length → S.wrs (i : Int) bs = (⟨S.A, S.W ++ wl i bs, false, -1⟩, 0)
  | [], S, i, h1, h2, _, _ => by
    obtain ⟨A, W, off, till⟩ := S
    simp only at h1 h2
    subst h1; subst h2
    show (_, 0) = _
    rw [wl, List.append_nil]
  | b :: bs, S, i, h1, h2, hb, hi => by
    rw [List.length_cons] at hi
    have e : S.wr (i : Int) b = (⟨S.A, S.W ++ [(i, b)], false, -1⟩, 0) := by
      rw [DS.wr, h1, mayD_of (show i * 64 + 64 ≤ S.A.length by omega), if_neg (by simp), if_neg (by rw [hb b (List.mem_cons_self ..)]; simp), h2, if_neg (by simp)]
      obtain ⟨A, W, off, till⟩ := S
      simp only at h1 h2
      subst h1; subst h2
      rfl
    show (if (S.wr (i : Int) b).2 = 0 then (S.wr (i : Int) b).1.wrs ((i : Int) + 1) bs else S.wr (i : Int) b) = _
    rw [e]
    simp only [if_true]
    have := DS.wrs_W bs ⟨S.A, S.W ++ [(i, b)], false, -1⟩ (i + 1) rfl rfl (fun c hc => hb c (List.mem_cons_of_mem _ hc)) (by show (i + 1) * 64 + bs.length * 64 ≤ S.A.length; omega)
    rw [show ((i : Int) + 1) = ((i + 1 : Nat) : Int) by omega, this]
    simp [wl]
theorem secs_len {b : List UInt8} {k : Nat} (h : k * 64 ≤ b.length) : ∀ c ∈ secs b k, c.length = 64 := by
  intro c hc
  simp only [secs, List.mem_map, List.mem_range] at hc
  obtain ⟨j, hj, rfl⟩ := hc
  exact sec_length (by omega)
/-- a super that is written where nothing waits -/
theorem wrS_W {A : List UInt8} (hA : 512 ≤ A.length) {s : SP} (hs : okS s = true) : (wrS (DS.of A) s) = (⟨A, wl (s.gen % 2 * 4) (secs (putP (pgS s)) 4), false, -1⟩, 0) := by
  have hl := pgS_len s
  rw [wrS, if_pos hs, wrPg, if_pos (pgS_ok s)]
  have := DS.wrs_W (secs (putP (pgS s)) 4) (DS.of A) (s.gen % 2 * 4) rfl rfl (secs_len (by omega)) (by rw [secs_length]; show _ ≤ A.length; omega)
  rw [show (((s.gen % 2 * 4 : Nat)) : Int) = (((s.gen % 2 : Nat)) : Int) * 4 by omega] at this
  exact this
def wwl (L : List (Nat × List UInt8)) : List WW := L.map fun x => ⟨x.1, undef, x.2⟩
theorem wwl_ok {A : List UInt8} (hA : 512 ≤ A.length) (s : SP) : WOk A.length (wwl (wl (s.gen % 2 * 4) (secs (putP (pgS s)) 4))) ∧ ∀ x ∈ wwl (wl (s.gen % 2 * 4) (secs (putP (pgS s)) 4)), s.gen % 2 * 4 ≤ x.i ∧ x.i < s.gen % 2 * 4 + 4 := by
  have hl := pgS_len s
  have key : ∀ x ∈ wwl (wl (s.gen % 2 * 4) (secs (putP (pgS s)) 4)), (s.gen % 2 * 4 ≤ x.i ∧ x.i < s.gen % 2 * 4 + 4) ∧ x.b.length = 64 := by
    intro x hx
    obtain ⟨y, hy, rfl⟩ := List.mem_map.1 hx
    obtain ⟨h1, h2, h3⟩ := wl_mem _ _ _ hy
    rw [secs_length] at h2
    exact ⟨⟨h1, h2⟩, secs_len (by omega) _ h3⟩
  exact ⟨fun x hx => by have := key x hx; exact ⟨by omega, this.2⟩, fun x hx => (key x hx).1⟩
/-- all that a crash leaves: the disk is on, it is as long, the other page is as it was, nothing or all of it where nothing or all is kept -/
theorem tear {A : List UInt8} (hA : 512 ≤ A.length) (hA1 : A.length ≤ 1000000) {s : SP} (hs : okS s = true) (F : List (Bool × UInt8)) (hF : F.length = 4) :
    ((wrS (DS.of A) s).1.cr F).on ∧ ((wrS (DS.of A) s).1.cr F).A.length = A.length ∧ pgAt ((wrS (DS.of A) s).1.cr F).V (1 - s.gen % 2) = pgAt A (1 - s.gen % 2)
      ∧ ((∀ f ∈ F, f.1 = false ∨ f.2 = 0) → ((wrS (DS.of A) s).1.cr F).V = A) ∧ ((∀ f ∈ F, f = (true, 255)) → pgAt ((wrS (DS.of A) s).1.cr F).V (s.gen % 2) = putP (pgS s)) := by
  obtain ⟨hW, hp⟩ := wwl_ok hA s
  have hon := DS.of_on hA1
  have hVon := wrS_on hon (show 512 ≤ (DS.of A).A.length from hA) hs
  have hw := wrS_W hA hs
  have hc : (wrS (DS.of A) s).1.cr F = ⟨crashM A (wwl (wl (s.gen % 2 * 4) (secs (putP (pgS s)) 4))) F, [], false, -1⟩ := by rw [hw]; rfl
  have hcl : (crashM A (wwl (wl (s.gen % 2 * 4) (secs (putP (pgS s)) 4))) F).length = A.length := crashTo_length hW _
  have hwlen : (wwl (wl (s.gen % 2 * 4) (secs (putP (pgS s)) 4))).length = 4 := by rw [wwl, List.length_map, wl_length, secs_length]
  have hV : ((wrS (DS.of A) s).1.cr F).V = crashM A (wwl (wl (s.gen % 2 * 4) (secs (putP (pgS s)) 4))) F := by rw [hc]; rfl
  refine ⟨?_, ?_, ?_, ?_, ?_⟩
  · rw [hc]; exact DS.of_on (by rw [hcl]; exact hA1)
  · rw [hc]; exact hcl
  · rw [hV]
    apply List.ext_getElem?
    intro k
    show ((List.drop ((1 - s.gen % 2) * 256) _).take 256)[k]? = ((List.drop ((1 - s.gen % 2) * 256) _).take 256)[k]?
    rw [List.getElem?_take, List.getElem?_take]
    split
    · rename_i hk
      rw [List.getElem?_drop, List.getElem?_drop]
      exact crashTo_out hW _ (fun x hx => by have := hp x hx; omega) _
    · rfl
  · intro h
    rw [hV]; exact crashTo_none h _
  · intro h
    have e : ((wrS (DS.of A) s).1.cr F).V = (wrS (DS.of A) s).1.V := by
      rw [hV, crashM, crashTo_all hW (by omega) h _ (Nat.le_refl _), List.take_length, ← flW_WP, hw]
      show flW A _ = flW A _
      (first | (congr 1; done) | (congr 1; simp [WP2, wwl]))
    rw [e, hVon.2.2.1]
    exact pgAt_same _ _ _ (by show s.gen % 2 * 256 + 256 ≤ A.length; omega) (pgS_len s)
/-- what counts behind a crash -/
theorem tear_new {S : DS} (h : S.on) (hA : S.A.length = 4096) {a b : SP} (ha : okS a = true) (hb : okS b = true) (hga : a.gen < 18446744073709551616) (hgb : b.gen < 18446744073709551616) (hg : b.gen = a.gen + 1) (hpa : a.pages = 16) (hpb : b.pages = 16)
    (p1 : pgAt S.V (a.gen % 2) = putP (pgS a)) (p2 : (getP (pgAt S.V (b.gen % 2))).2 ≠ 0 ∨ (getP (pgAt S.V (b.gen % 2))).1.b = putS b) :
    ∃ c, nwS S = (c, 0) ∧ (c = a ∨ c = b) ∧ (pgAt S.V (b.gen % 2) = putP (pgS b) → c = b) ∧ ((getP (pgAt S.V (b.gen % 2))).2 ≠ 0 → c = a) := by
  have hA5 : 512 ≤ S.A.length := by omega
  have hd : S.A.length / 256 = 16 := by rw [hA]
  have ra := rdS_pg h hA5 ha hga rfl p1
  rw [decide_eq_true (show a.pages = ((S.A.length / 256 : Nat) : Int) by rw [hd, hpa]; rfl)] at ra
  have hga0 := okS_gen ha
  have key : ∃ q bb, rdS S (b.gen % 2) = (q, bb, 0) ∧ (bb = true → q = b) ∧ ((getP (pgAt S.V (b.gen % 2))).2 ≠ 0 → bb = false) ∧ (pgAt S.V (b.gen % 2) = putP (pgS b) → bb = true) := by
    by_cases hall : pgAt S.V (b.gen % 2) = putP (pgS b)
    · have rb := rdS_pg h hA5 hb hgb rfl hall
      rw [decide_eq_true (show b.pages = ((S.A.length / 256 : Nat) : Int) by rw [hd, hpb]; rfl)] at rb
      refine ⟨_, _, rb, fun _ => rfl, fun q => ?_, fun _ => rfl⟩
      rw [hall, get_put (pgS b) (pgS_ok b) hgb] at q
      exact absurd rfl q
    · by_cases hbad : (getP (pgAt S.V (b.gen % 2))).2 = 0
      · have hbody : (getP (pgAt S.V (b.gen % 2))).1.b = putS b := by
          rcases p2 with p2 | p2
          · exact absurd hbad p2
          · exact p2
        have hrd := rdPg_on h (b.gen % 2) (show b.gen % 2 * 256 + 256 ≤ S.A.length by rw [hA]; have : b.gen % 2 < 2 := Nat.mod_lt _ (by decide); rcases (show b.gen % 2 = 0 ∨ b.gen % 2 = 1 by omega) with q | q <;> rw [q] <;> decide) 83
        by_cases hc : (getP (pgAt S.V (b.gen % 2))).2 = 0 ∧ (getP (pgAt S.V (b.gen % 2))).1.a = ((b.gen % 2 : Nat) : Int) ∧ (getP (pgAt S.V (b.gen % 2))).1.k = 83
        · rw [if_pos hc] at hrd
          have hr : ∃ bb, rdS S (b.gen % 2) = (b, bb, 0) := by
            rw [rdS, hrd, if_neg (by rw [hbad]; simp), if_neg (by rw [hbad]; simp), hbody, get_putS hb hgb]
            exact ⟨_, rfl⟩
          obtain ⟨bb, hr⟩ := hr
          exact ⟨_, _, hr, fun _ => rfl, fun q => absurd hbad q, fun q => absurd q hall⟩
        · rw [if_neg hc] at hrd
          have hr : rdS S (b.gen % 2) = (zeroS, false, 0) := by rw [rdS, hrd, if_pos rfl]
          exact ⟨_, _, hr, (fun q => by cases q), fun q => absurd hbad q, fun q => absurd q hall⟩
      · have hr := rdS_none h (show b.gen % 2 * 256 + 256 ≤ S.A.length by rw [hA]; rcases (show b.gen % 2 = 0 ∨ b.gen % 2 = 1 by omega) with q | q <;> rw [q] <;> decide) hbad
        exact ⟨_, _, hr, (fun q => by cases q), fun _ => rfl, fun q => absurd q hall⟩
  obtain ⟨q, bb, rb, k1, k2, k3⟩ := key
  cases bb
  · have hn : nwS S = (a, 0) := nw_of (a := a.gen % 2) (by omega) ra (by rw [show 1 - a.gen % 2 = b.gen % 2 by omega]; exact rb) (by omega) (fun q => by cases q)
    exact ⟨a, hn, .inl rfl, (fun q => by have := k3 q; cases this), fun _ => rfl⟩
  · obtain rfl := k1 rfl
    have hn : nwS S = (q, 0) := nw_of (a := q.gen % 2) (by omega) rb (by rw [show 1 - q.gen % 2 = a.gen % 2 by omega]; exact ra) (by omega) (fun _ => by omega)
    exact ⟨q, hn, .inr rfl, fun _ => rfl, (fun c => by have := k2 c; cases this)⟩
theorem tear_first (a : SP) : (wrS (DS.new 16) a).2 = (if okS a = true then 0 else 1) ∧ (wrS (DS.new 16) a).1.on ∧ (wrS (DS.new 16) a).1.V.length = 4096 ∧ (wrS (DS.new 16) a).1.W.length ≤ 1000000
    ∧ (okS a = true → pgAt (wrS (DS.new 16) a).1.V (a.gen % 2) = putP (pgS a) ∧ pgAt (wrS (DS.new 16) a).1.V (1 - a.gen % 2) = List.replicate 256 0) := by
  have hon0 := DS.new_on 16 (by omega)
  have hok0 := hon0.1
  have hAl0 : (DS.new 16).A.length = 4096 := DS.new_len 16
  have hWl0 : (DS.new 16).W.length = 0 := by rw [DS.new_W]; rfl
  have hVl : (DS.new 16).V.length = 4096 := by rw [DS.V_length hok0, hAl0]
  by_cases q : okS a = true
  · obtain ⟨h1, h2, h3, h4, h5⟩ := wrS_on hon0 (by omega) q
    have hm : a.gen % 2 * 256 + 256 ≤ (DS.new 16).V.length := by rw [hVl]; rcases (show a.gen % 2 = 0 ∨ a.gen % 2 = 1 by clear hVl h3; omega) with r | r <;> rw [r] <;> decide
    have h2' : 1 - a.gen % 2 ≠ a.gen % 2 := by clear hm hVl h3; omega
    have h3' : 1 - a.gen % 2 < 16 := by clear hm hVl h3; omega
    refine ⟨by rw [if_pos q]; exact h1, h2, by rw [DS.V_length h2.1, h4, hAl0], by clear hm; omega, fun _ => ⟨?_, ?_⟩⟩
    · rw [h3]; exact pgAt_same _ _ _ hm (pgS_len a)
    · rw [h3, pgAt_other _ _ _ _ hm (pgS_len a) h2']
      exact pgAt_fresh 16 _ h3'
  · have h : wrS (DS.new 16) a = (DS.new 16, 1) := by rw [wrS, if_neg q]
    rw [h, if_neg q]
    exact ⟨rfl, hon0, hVl, by show (DS.new 16).W.length ≤ _; omega, fun c => absurd c q⟩
end Go.Proofs.Ytckdlfbbkemklaa
