import Derived.Test.YtckdlfbbkemklaaZNjPlain3
import Derived.Test.YtckdlfbbkemklaaZNdWalk10
import Derived.Test.YtckdlfbbkemklaaZGvLaw
import Derived.Test.YtckdlfbbkemklaaZGvMix4
/- node: a node that is split, and put together again, is as it was: the walk. -/
namespace Go.Proofs.Ytckdlfbbkemklaa
open Go Go.RowKit Go.Gv
set_option linter.unusedVariables false
set_option linter.unusedSimpArgs false

def bj : Nat → Nat
  | 0 => 1048576
  | 1 => 2097152
  | _ => 4194304
theorem bj_le (i : Nat) : bj i ≤ 4194304 := by
  match i with
  | 0 => decide
  | 1 => decide
  | _ + 2 => exact Nat.le_refl _
theorem bj_two {i m : Nat} (hi : i < 2) (h : m ≤ bj i) : m + m ≤ bj (i + 1) := by
  match i with
  | 0 => simp only [bj] at *; omega
  | 1 => simp only [bj] at *; omega
  | _ + 2 => omega
/-- what was there at first, and texts that are read, there or elsewhere -/
def exM (h0 : PH) (l : List (Value × Nat × List Value)) : Atom := fun h => (∀ b o, h0 b = some o → h b = some o) ∧ manyRd l h
section
variable {P : Program} {w0 : World} {n : NT} {L : Slots} {H H1 H2 : List Atom}
theorem rdw_exM {h0 : PH} {l : List (Value × Nat × List Value)} {v : Value} {m : Nat} {xs : List Value} (p : Pull H (exM h0 l) H1) (hx : (v, m, xs) ∈ l) : ∀ w, St w0 w H → RdW w v m xs := fun w hw => by
  obtain ⟨s, hA⟩ := (hw.pull p).2.head
  exact (hA.2 _ hx).mono res_hp
theorem ndR_exM {h0 : PH} {ev kv dv : Value} {E : List ENT} {K : List KEY} {D : List Int} (p : Pull H (exM h0 [(ev, E.length, EL E), (kv, K.length, KL K), (dv, D.length, NL D)]) H1) : ∀ w, St w0 w H → ndR w ev kv dv E K D := fun w hw =>
  ⟨rdw_exM p (.head _) w hw, rdw_exM p (.tail _ (.head _)) w hw, rdw_exM p (.tail _ (.tail _ (.head _))) w hw⟩
theorem exM_of {h0 : PH} {l : List (Value × Nat × List Value)} (hl : ∀ x ∈ l, Rd h0 x.1 x.2.1 x.2.2) (h : PH) (he : Ex h0 h) : exM h0 l h := by
  have e : h = h0 := he
  rw [e]
  exact ⟨fun _ _ q => q, hl⟩
theorem exM_imp {h0 : PH} {l l' : List (Value × Nat × List Value)} (hl : ∀ h, manyRd l h → manyRd l' h) (h : PH) (he : exM h0 l h) : exM h0 l' h := ⟨he.1, hl h he.2⟩
theorem Tri.exJoin {G : Act → World → Prop} {h0 : PH} {e : TypeId} {size m : Nat} {v : Value} {xs : List Value} {l : List (Value × Nat × List Value)} (pA : Pull H (exM h0 l) H1) (pB : Pull H1 (own e size v m xs) H2) (k : Tri w0 G n L (exM h0 (l ++ [(v, m, xs)]) :: H2)) : Tri w0 G n L H :=
  Tri.merge pA pB (fun w s1 s2 _ h1 h2 => ⟨fun b o q => by
    have := res_some (h1.1 b o q)
    unfold res; rw [if_pos (.inl this.1)]; exact this.2, manyRd_add w s1 s2 h1.2 (own_Rd h2)⟩) k
theorem Tri.exBack {G : Act → World → Prop} {h0 : PH} {l : List (Value × Nat × List Value)} (p : Pull H (exM h0 l) H1) (k : Tri w0 G n L (Ex h0 :: H1)) : Tri w0 G n L H := fun a w ha hw => by
  obtain ⟨he, s, h1, h2, h3⟩ := hw.pull p
  refine k a w ha ⟨he, fun b => s b ∧ h0 b ≠ none, fun b hb => ⟨trivial, (h1 b hb.1).2⟩, ?_, h3.mono (fun b _ hb => ⟨trivial, fun q => hb.2 q.1⟩)⟩
  funext b
  show res w (fun b => s b ∧ h0 b ≠ none) b = h0 b
  unfold res
  cases hb : h0 b with
  | none => rw [if_neg (fun q => q.2 hb)]
  | some o =>
    have := res_some (h2.1 b o hb)
    rw [if_pos ⟨this.1, by rw [hb]; simp⟩]
    exact this.2
end
theorem rd_none (h : PH) : Rd h (.slice none 0 0) 0 [] := ⟨none, 0, rfl, ⟨by simp, by decide⟩, fun j u h => by simp at h⟩
theorem many_two (E : List ENT) (K : List KEY) (D : List Int) (A2 B2 C2 : Option Addr) (a2 b2 c2 : Nat) (l : List (Value × Nat × List Value)) (h : PH) (hm : manyRd (l ++ [(.slice A2 (0 + E.length + E.length) a2, 0 + E.length + E.length, [] ++ EL E ++ EL E)] ++ [(.slice B2 (0 + K.length + K.length) b2, 0 + K.length + K.length, [] ++ KL K ++ KL K)] ++ [(.slice C2 (0 + D.length + D.length) c2, 0 + D.length + D.length, [] ++ NL D ++ NL D)]) h) :
    manyRd [(.slice A2 (E ++ E).length a2, (E ++ E).length, EL (E ++ E)), (.slice B2 (K ++ K).length b2, (K ++ K).length, KL (K ++ K)), (.slice C2 (D ++ D).length c2, (D ++ D).length, NL (D ++ D))] h := by
  simp only [List.length_append, EL_app, KL_app, NL_app, Nat.zero_add, List.nil_append] at *
  intro x hx
  refine hm x ?_
  simp only [List.mem_cons, List.not_mem_nil, or_false] at hx
  simp only [List.mem_append, List.mem_singleton]
  rcases hx with hx | hx | hx
  · exact .inl (.inl (.inr hx))
  · exact .inl (.inr hx)
  · exact .inr hx
theorem blk_two (p : Nat) (T : TypeId) (leaf : Bool) (E : List ENT) (K : List KEY) (D : List Int) (A2 B2 C2 : Option Addr) (a2 b2 c2 : Nat) (x y z : Value) :
    blk p T (((((ndLL leaf x y z).set 1 (.slice A2 (0 + E.length + E.length) a2)).set 2 (.slice B2 (0 + K.length + K.length) b2)).set 3 (.slice C2 (0 + D.length + D.length) c2)))
    = blk p T (ndLL leaf (.slice A2 (E ++ E).length a2) (.slice B2 (K ++ K).length b2) (.slice C2 (D ++ D).length c2)) := by
  simp only [List.length_append, Nat.zero_add, ndLL, List.set]
theorem many_cut (E : List ENT) (K : List KEY) (D : List Int) (A B C : Option Addr) (a b c k : Nat) (hk : k ≤ K.length) (hd : k ≤ D.length) (h : PH) (hm : manyRd [(.slice A E.length a, E.length, EL E), (.slice B K.length b, K.length, KL K), (.slice C D.length c, D.length, NL D)] h) :
    manyRd [(.slice none ([] : List ENT).length 0, ([] : List ENT).length, EL []), (.slice (if b = 0 then B else B.map (·.add (0 * 2))) (cutL K 0 k).length (b - 0), (cutL K 0 k).length, KL (cutL K 0 k)), (.slice (if c = 0 then C else C.map (·.add (0 * 1))) (cutL D 0 k).length (c - 0), (cutL D 0 k).length, NL (cutL D 0 k))] h := by
  intro x hx
  have h2 := hm _ (.tail _ (.head _))
  have h3 := hm _ (.tail _ (.tail _ (.head _)))
  have g2 := cutK h2 0 k (Nat.zero_le _) hk
  have g3 := cutD h3 0 k (Nat.zero_le _) hd
  simp only [List.mem_cons, List.not_mem_nil, or_false] at hx
  rcases hx with rfl | rfl | rfl
  · exact rd_none h
  · rw [cutL_len K 0 k hk]; exact g2
  · rw [cutL_len D 0 k hd]; exact g3
theorem many_leaf (E : List ENT) (K : List KEY) (D : List Int) (A B C : Option Addr) (a b c : Nat) (h : PH) (hm : manyRd [(.slice A E.length a, E.length, EL E), (.slice B K.length b, K.length, KL K), (.slice C D.length c, D.length, NL D)] h) :
    manyRd [(.slice A E.length a, E.length, EL E), (.slice none ([] : List KEY).length 0, ([] : List KEY).length, KL []), (.slice none ([] : List Int).length 0, ([] : List Int).length, NL [])] h := by
  intro x hx
  simp only [List.mem_cons, List.not_mem_nil, or_false] at hx
  rcases hx with rfl | rfl | rfl
  · exact hm _ (.head _)
  · exact rd_none h
  · exact rd_none h
theorem many_nil (xs : List ND3) (h : PH) (_ : manyRd [] h) : manyRd [(.slice none (joinN (xs.take 0)).E.length 0, (joinN (xs.take 0)).E.length, EL (joinN (xs.take 0)).E), (.slice none (joinN (xs.take 0)).K.length 0, (joinN (xs.take 0)).K.length, KL (joinN (xs.take 0)).K), (.slice none (joinN (xs.take 0)).D.length 0, (joinN (xs.take 0)).D.length, NL (joinN (xs.take 0)).D)] h := by
  intro x hx
  simp only [List.mem_cons, List.not_mem_nil, or_false] at hx
  rcases hx with rfl | rfl | rfl <;> exact rd_none h
/-- the node while it grows -/
structure JS (j : Nat) where
  i : Nat
  A : Option Addr
  a : Nat
  B : Option Addr
  b : Nat
  C : Option Addr
  c : Nat
  E : List ENT
  K : List KEY
  D : List Int
  hi : i ≤ j
  hE : E.length ≤ bj i
  hK : K.length ≤ bj i
  hD : D.length ≤ bj i
/-- the node as it is split -/
structure JT (leaf : Bool) where
  A : Option Addr
  a : Nat
  B : Option Addr
  b : Nat
  C : Option Addr
  c : Nat
  E : List ENT
  K : List KEY
  D : List Int
  hx : okN leaf ⟨E, K, D⟩
  hE : E.length ≤ 4194304
  hK : K.length ≤ 4194304
  hD : D.length ≤ 4194304
set_option maxHeartbeats 16000000 in
theorem nodeJoins_walk (w : World) (leaf : Bool) (ev kv dv : Value) (E0 : List ENT) (K0 : List KEY) (D0 : List Int) (more : Int) (hr : ndR w ev kv dv E0 K0 D0) (hE0 : E0.length ≤ 1048576) (hK0 : K0.length ≤ 1048576) (hD0 : D0.length ≤ 1048576) :
    Calls Try.prog 3 #[ndW leaf ev kv dv, .int .i64 more] w (Ret (LawR w)) := by
  obtain ⟨hr0, hr1, hr2⟩ := hr
  obtain ⟨Ae, ce, rfl, _⟩ := id hr0
  obtain ⟨Ak, ck, rfl, _⟩ := id hr1
  obtain ⟨Ad, cd, rfl, _⟩ := id hr2
  refine Calls.enter Try.func3 rfl rfl rfl (St.rebase w) ?_
  simp only [argSlots]
  obtain ⟨j, hj⟩ : ∃ j : Nat, (j : Int) = more % 18446744073709551616 % 3 := ⟨(more % 18446744073709551616 % 3).toNat, by omega⟩
  ((with_reducible refine Tri.seq (Tri.region ?_)); (with_reducible apply Tri.op); rfl)
  (first | ((with_reducible apply o_boxA); (case hx => rfl); (case hn => rfl); intro b1) | ((with_reducible apply o_box1); (case hx => rfl); (case h1 => rfl); (case hn => rfl); intro b1))
  ((with_reducible apply Tri.op); rfl; (with_reducible apply o_assign); rfl; rfl; (with_reducible refine Tri.nil (Tri.thenN (Tri.seq (Tri.seq (Tri.region ?_))))); (with_reducible apply Tri.op); rfl; (with_reducible apply o_assign); rfl; rfl; (with_reducible refine Tri.nil (Tri.thenN (Tri.block ?_))))
  refine Tri.imp (A := Ex (hp w)) (B := exM (hp w) [(.slice Ae E0.length ce, E0.length, EL E0), (.slice Ak K0.length ck, K0.length, KL K0), (.slice Ad D0.length cd, D0.length, NL D0)]) (by (repeat first | with_reducible exact Pull.head | apply Pull.tail)) (exM_of (fun x hx => by
    simp only [List.mem_cons, List.not_mem_nil, or_false] at hx
    rcases hx with rfl | rfl | rfl
    · exact hr0
    · exact hr1
    · exact hr2)) ?_
  have e0 : E0.length ≤ bj 0 := hE0
  have k0 : K0.length ≤ bj 0 := hK0
  have d0 : D0.length ≤ bj 0 := hD0
  ((first | with_reducible apply Tri.loop (α := JS j) (m := fun x => j - x.i) (Lx := fun x => [(1, .int .i64 more), (2, .pointer (some ⟨b1, 0, none⟩)), (5, .int .i64 (x.i : Int))]) (Hx := fun x => [blk b1 26 (ndLL leaf (.slice x.A x.E.length x.a) (.slice x.B x.K.length x.b) (.slice x.C x.D.length x.c)), exM (hp w) [(.slice x.A x.E.length x.a, x.E.length, EL x.E), (.slice x.B x.K.length x.b, x.K.length, KL x.K), (.slice x.C x.D.length x.c, x.D.length, NL x.D)]]) (x0 := ⟨0, Ae, ce, Ak, ck, Ad, cd, E0, K0, D0, Nat.zero_le _, e0, k0, d0⟩) | with_reducible apply TriR.loop (α := JS j) (m := fun x => j - x.i) (Lx := fun x => [(1, .int .i64 more), (2, .pointer (some ⟨b1, 0, none⟩)), (5, .int .i64 (x.i : Int))]) (Hx := fun x => [blk b1 26 (ndLL leaf (.slice x.A x.E.length x.a) (.slice x.B x.K.length x.b) (.slice x.C x.D.length x.c)), exM (hp w) [(.slice x.A x.E.length x.a, x.E.length, EL x.E), (.slice x.B x.K.length x.b, x.K.length, KL x.K), (.slice x.C x.D.length x.c, x.D.length, NL x.D)]]) (x0 := ⟨0, Ae, ce, Ak, ck, Ad, cd, E0, K0, D0, Nat.zero_le _, e0, k0, d0⟩)); (case hL => ((try dsimp only); (repeat (first | exact trivial | refine And.intro (by rfl) ?_)))); (case hH => ((try dsimp only); apply St.all; (repeat first | exact Pulls.nil | (apply Pulls.cons; repeat first | with_reducible exact Pull.head | apply Pull.tail))))); (rintro ⟨i, A, a, B, b, C, c, E, K, D, hi, hE, hK, hD⟩ mx hmx; (try dsimp only at hmx ⊢))
  ((with_reducible refine Tri.seq (Tri.seq (Tri.region ?_))); (with_reducible apply Tri.op); rfl; (with_reducible apply o_move); rfl; rfl; (with_reducible apply Tri.op); rfl; (with_reducible apply o_move); rfl; rfl; (with_reducible apply Tri.op); rfl; (with_reducible apply o_conv64); rfl; rfl; (with_reducible apply Tri.op); rfl; (with_reducible apply o_rem); rfl; rfl; rfl; (omega); (omega); (with_reducible apply Tri.op); rfl; (with_reducible apply o_convI); rfl; rfl; (first | decide | (exact wrap_i64 (by omega)) | (exact wrap_u8 (by omega)) | (exact wrap_u16 (by omega)) | (exact wrap_u32 (by omega)) | (exact wrap_u64 (by omega))); (with_reducible apply Tri.op); rfl; (with_reducible apply o_lss); rfl; rfl; rfl; (with_reducible refine Tri.nil (Tri.thenN ?_)))
  ((first | with_reducible apply Tri.condD | with_reducible apply TriR.condD); (case hc => rfl); (all_goals intro hc))
  · have hij : i < j := by omega
    have hij' : i + 1 ≤ j := hij
    have hj3 : j < 3 := by omega
    have lE := bj_two (by omega) hE
    have lK := bj_two (by omega) hK
    have lD := bj_two (by omega) hD
    have uE := bj_le i
    have lE' : (E ++ E).length ≤ bj (i + 1) := by rw [List.length_append]; exact lE
    have lK' : (K ++ K).length ≤ bj (i + 1) := by rw [List.length_append]; exact lK
    have lD' : (D ++ D).length ≤ bj (i + 1) := by rw [List.length_append]; exact lD
    ((with_reducible refine Tri.skip (Tri.thenN (Tri.seq (Tri.block ?_)))))
    ((with_reducible apply Tri.mixN 22 [exM (hp w) [(.slice A E.length a, E.length, EL E), (.slice B K.length b, K.length, KL K), (.slice C D.length c, D.length, NL D)]] [exM (hp w) [(.slice A E.length a, E.length, EL E), (.slice B K.length b, K.length, KL K), (.slice C D.length c, D.length, NL D)], blk b1 26 (ndLL leaf (.slice A E.length a) (.slice B K.length b) (.slice C D.length c))]); (case hp => exact ⟨_, rfl⟩); (case p => (repeat first | exact Pulls.nil | (apply Pulls.cons; repeat first | with_reducible exact Pull.head | apply Pull.tail))); (dsimp only [List.length]))
    (((with_reducible apply TriN.q 1); (case ho => rfl); (case hg => rfl); (case hB => kernel_rfl); (case hd => rfl); (case hn => rfl); (case h => (intro F K hK; (try dsimp only [List.cons_append, List.nil_append]); (with_reducible apply o_fieldAddr); rfl; rfl; exact hK))); ((with_reducible apply TriN.q 2); (case ho => rfl); (case hg => rfl); (case hB => kernel_rfl); (case hd => rfl); (case hn => rfl); (case h => (intro F K hK; (try dsimp only [List.cons_append, List.nil_append]); (with_reducible apply o_load); rfl; (repeat first | with_reducible exact Pull.head | apply Pull.tail); rfl; rfl; exact hK))); ((with_reducible apply TriN.q 4); (case ho => rfl); (case hg => rfl); (case hB => kernel_rfl); (case hd => rfl); (case hn => rfl); (case h => (intro F K hK; (try dsimp only [List.cons_append, List.nil_append]); (with_reducible apply o_fieldAddr); rfl; rfl; exact hK))); ((with_reducible apply TriN.q 5); (case ho => rfl); (case hg => rfl); (case hB => kernel_rfl); (case hd => rfl); (case hn => rfl); (case h => (intro F K hK; (try dsimp only [List.cons_append, List.nil_append]); (with_reducible apply o_load); rfl; (repeat first | with_reducible exact Pull.head | apply Pull.tail); rfl; rfl; exact hK))); ((with_reducible apply TriN.q 8); (case ho => rfl); (case hg => rfl); (case hB => kernel_rfl); (case hd => rfl); (case hn => rfl); (case h => (intro F K hK; (try dsimp only [List.cons_append, List.nil_append]); (with_reducible apply o_fieldAddr); rfl; rfl; exact hK))); ((with_reducible apply TriN.q 9); (case ho => rfl); (case hg => rfl); (case hB => kernel_rfl); (case hd => rfl); (case hn => rfl); (case h => (intro F K hK; (try dsimp only [List.cons_append, List.nil_append]); (with_reducible apply o_load); rfl; (repeat first | with_reducible exact Pull.head | apply Pull.tail); rfl; rfl; exact hK))); ((with_reducible apply TriN.q 11); (case ho => rfl); (case hg => rfl); (case hB => kernel_rfl); (case hd => rfl); (case hn => rfl); (case h => (intro F K hK; (try dsimp only [List.cons_append, List.nil_append]); (with_reducible apply o_fieldAddr); rfl; rfl; exact hK))); ((with_reducible apply TriN.q 12); (case ho => rfl); (case hg => rfl); (case hB => kernel_rfl); (case hd => rfl); (case hn => rfl); (case h => (intro F K hK; (try dsimp only [List.cons_append, List.nil_append]); (with_reducible apply o_load); rfl; (repeat first | with_reducible exact Pull.head | apply Pull.tail); rfl; rfl; exact hK))); ((with_reducible apply TriN.q 15); (case ho => rfl); (case hg => rfl); (case hB => kernel_rfl); (case hd => rfl); (case hn => rfl); (case h => (intro F K hK; (try dsimp only [List.cons_append, List.nil_append]); (with_reducible apply o_fieldAddr); rfl; rfl; exact hK))); ((with_reducible apply TriN.q 16); (case ho => rfl); (case hg => rfl); (case hB => kernel_rfl); (case hd => rfl); (case hn => rfl); (case h => (intro F K hK; (try dsimp only [List.cons_append, List.nil_append]); (with_reducible apply o_load); rfl; (repeat first | with_reducible exact Pull.head | apply Pull.tail); rfl; rfl; exact hK))); ((with_reducible apply TriN.q 18); (case ho => rfl); (case hg => rfl); (case hB => kernel_rfl); (case hd => rfl); (case hn => rfl); (case h => (intro F K hK; (try dsimp only [List.cons_append, List.nil_append]); (with_reducible apply o_fieldAddr); rfl; rfl; exact hK))); ((with_reducible apply TriN.q 19); (case ho => rfl); (case hg => rfl); (case hB => kernel_rfl); (case hd => rfl); (case hn => rfl); (case h => (intro F K hK; (try dsimp only [List.cons_append, List.nil_append]); (with_reducible apply o_load); rfl; (repeat first | with_reducible exact Pull.head | apply Pull.tail); rfl; rfl; exact hK))))
    ((with_reducible apply TriN.a3 0 7 14); (case hoi => rfl); (case hoj => rfl); (case hok => rfl); (case hgi => rfl); (case hgj => rfl); (case hgk => rfl); (case hr => kernel_rfl); (all_goals (try dsimp only [List.cons_append, List.nil_append])))
    ((with_reducible apply o_litSl (ys := [])); (case hp => (repeat first | exact pev.nil | (apply pev.cons; case a => rfl))); (case hm => rfl); (case hf => rfl); (case hn => rfl); intro y1)
    ((with_reducible apply TriN.back); (case hp => exact ⟨_, rfl⟩); (case p => (repeat first | exact Pulls.nil | (apply Pulls.cons; repeat first | with_reducible exact Pull.head | apply Pull.tail))))
    ((with_reducible apply TriN.a3 3 7 14); (case hoi => rfl); (case hoj => rfl); (case hok => rfl); (case hgi => rfl); (case hgj => rfl); (case hgk => rfl); (case hr => kernel_rfl); (all_goals (try dsimp only [List.cons_append, List.nil_append])))
    ((with_reducible apply o_append (m2 := E.length) (news := EL E)); (case hx => rfl); (case hy => rfl); (case p => (repeat first | with_reducible exact Pull.head | apply Pull.tail)); (case hr => exact rdw_exM (by (repeat first | with_reducible exact Pull.head | apply Pull.tail)) (.head _)); (case hl => exact EL_lens E rfl); (case h1 => exact EL_ones E); (case hb => omega); (case hn => rfl))
    intro y2
    ((with_reducible apply TriN.back); (case hp => exact ⟨_, rfl⟩); (case p => (repeat first | exact Pulls.nil | (apply Pulls.cons; repeat first | with_reducible exact Pull.head | apply Pull.tail))))
    ((with_reducible apply TriN.a3 6 7 14); (case hoi => rfl); (case hoj => rfl); (case hok => rfl); (case hgi => rfl); (case hgj => rfl); (case hgk => rfl); (case hr => kernel_rfl); (all_goals (try dsimp only [List.cons_append, List.nil_append])))
    ((with_reducible apply o_append (m2 := E.length) (news := EL E)); (case hx => rfl); (case hy => rfl); (case p => (repeat first | with_reducible exact Pull.head | apply Pull.tail)); (case hr => exact rdw_exM (by (repeat first | with_reducible exact Pull.head | apply Pull.tail)) (.head _)); (case hl => exact EL_lens E rfl); (case h1 => exact EL_ones E); (case hb => omega); (case hn => rfl))
    intro ve
    ((with_reducible apply TriN.back); (case hp => exact ⟨_, rfl⟩); (case p => (repeat first | exact Pulls.nil | (apply Pulls.cons; repeat first | with_reducible exact Pull.head | apply Pull.tail))))
    (((with_reducible apply TriN.p 21); (case ho => rfl); (case hg => rfl); (case hB => kernel_rfl); (case hd => rfl); (case hn => rfl); (case h => (intro F K hK; (try dsimp only [List.cons_append, List.nil_append]); (with_reducible apply o_fieldAddr); rfl; rfl; exact hK))))
    ((with_reducible apply TriN.a2 7 14); (case hoi => rfl); (case hoj => rfl); (case hgi => rfl); (case hgj => rfl); (case hr => kernel_rfl); (all_goals (try dsimp only [List.cons_append, List.nil_append])))
    ((with_reducible apply o_litSl (ys := [])); (case hp => (repeat first | exact pev.nil | (apply pev.cons; case a => rfl))); (case hm => rfl); (case hf => rfl); (case hn => rfl); intro y3)
    ((with_reducible apply TriN.back); (case hp => exact ⟨_, rfl⟩); (case p => (repeat first | exact Pulls.nil | (apply Pulls.cons; repeat first | with_reducible exact Pull.head | apply Pull.tail))))
    ((with_reducible apply TriN.a2 10 14); (case hoi => rfl); (case hoj => rfl); (case hgi => rfl); (case hgj => rfl); (case hr => kernel_rfl); (all_goals (try dsimp only [List.cons_append, List.nil_append])))
    ((with_reducible apply o_append (m2 := K.length) (news := KL K)); (case hx => rfl); (case hy => rfl); (case p => (repeat first | with_reducible exact Pull.head | apply Pull.tail)); (case hr => exact rdw_exM (by (repeat first | with_reducible exact Pull.head | apply Pull.tail)) (.tail _ (.head _))); (case hl => exact KL_lens K rfl); (case h1 => exact KL_ones K); (case hb => omega); (case hn => rfl))
    intro y4
    ((with_reducible apply TriN.back); (case hp => exact ⟨_, rfl⟩); (case p => (repeat first | exact Pulls.nil | (apply Pulls.cons; repeat first | with_reducible exact Pull.head | apply Pull.tail))))
    ((with_reducible apply TriN.a2 13 14); (case hoi => rfl); (case hoj => rfl); (case hgi => rfl); (case hgj => rfl); (case hr => kernel_rfl); (all_goals (try dsimp only [List.cons_append, List.nil_append])))
    ((with_reducible apply o_append (m2 := K.length) (news := KL K)); (case hx => rfl); (case hy => rfl); (case p => (repeat first | with_reducible exact Pull.head | apply Pull.tail)); (case hr => exact rdw_exM (by (repeat first | with_reducible exact Pull.head | apply Pull.tail)) (.tail _ (.head _))); (case hl => exact KL_lens K rfl); (case h1 => exact KL_ones K); (case hb => omega); (case hn => rfl))
    intro vk
    ((with_reducible apply TriN.back); (case hp => exact ⟨_, rfl⟩); (case p => (repeat first | exact Pulls.nil | (apply Pulls.cons; repeat first | with_reducible exact Pull.head | apply Pull.tail))))
    ((with_reducible apply TriN.a 14); (case ho => rfl); (case hg => rfl); (case hr => kernel_rfl); (try dsimp only [List.cons_append, List.nil_append]))
    ((with_reducible apply o_litSl (ys := [])); (case hp => (repeat first | exact pev.nil | (apply pev.cons; case a => rfl))); (case hm => rfl); (case hf => rfl); (case hn => rfl); intro y5)
    ((with_reducible apply TriN.back); (case hp => exact ⟨_, rfl⟩); (case p => (repeat first | exact Pulls.nil | (apply Pulls.cons; repeat first | with_reducible exact Pull.head | apply Pull.tail))))
    ((with_reducible apply TriN.a 17); (case ho => rfl); (case hg => rfl); (case hr => kernel_rfl); (try dsimp only [List.cons_append, List.nil_append]))
    ((with_reducible apply o_append (m2 := D.length) (news := NL D)); (case hx => rfl); (case hy => rfl); (case p => (repeat first | with_reducible exact Pull.head | apply Pull.tail)); (case hr => exact rdw_exM (by (repeat first | with_reducible exact Pull.head | apply Pull.tail)) (.tail _ (.tail _ (.head _)))); (case hl => exact NL_lens D rfl); (case h1 => exact NL_one5 D); (case hb => omega); (case hn => rfl))
    intro y6
    ((with_reducible apply TriN.back); (case hp => exact ⟨_, rfl⟩); (case p => (repeat first | exact Pulls.nil | (apply Pulls.cons; repeat first | with_reducible exact Pull.head | apply Pull.tail))))
    ((with_reducible apply TriN.a 20); (case ho => rfl); (case hg => rfl); (case hr => kernel_rfl); (try dsimp only [List.cons_append, List.nil_append]))
    ((with_reducible apply o_append (m2 := D.length) (news := NL D)); (case hx => rfl); (case hy => rfl); (case p => (repeat first | with_reducible exact Pull.head | apply Pull.tail)); (case hr => exact rdw_exM (by (repeat first | with_reducible exact Pull.head | apply Pull.tail)) (.tail _ (.tail _ (.head _)))); (case hl => exact NL_lens D rfl); (case h1 => exact NL_one5 D); (case hb => omega); (case hn => rfl))
    intro vd
    (refine Tri.shape (e := 103) (size := 8) (v := ve) (by (repeat first | with_reducible exact Pull.head | apply Pull.tail)) ?_; rintro ⟨A2, a2, rfl⟩)
    (refine Tri.shape (e := 101) (size := 2) (v := vk) (by (repeat first | with_reducible exact Pull.head | apply Pull.tail)) ?_; rintro ⟨B2, b2, rfl⟩)
    (refine Tri.shape (e := 3) (size := 1) (v := vd) (by (repeat first | with_reducible exact Pull.head | apply Pull.tail)) ?_; rintro ⟨C2, c2, rfl⟩)
    ((with_reducible apply TriN.back); (case hp => exact ⟨_, rfl⟩); (case p => (repeat first | exact Pulls.nil | (apply Pulls.cons; repeat first | with_reducible exact Pull.head | apply Pull.tail))))
    rotate_left
    ((with_reducible apply o_litSl (ys := [])); (case hp => (repeat first | exact pev.nil | (apply pev.cons; case a => rfl))); (case hm => rfl); (case hf => rfl); (case hn => rfl); intro y5)
    ((with_reducible apply TriN.back); (case hp => exact ⟨_, rfl⟩); (case p => (repeat first | exact Pulls.nil | (apply Pulls.cons; repeat first | with_reducible exact Pull.head | apply Pull.tail))))
    ((with_reducible apply TriN.a 13); (case ho => rfl); (case hg => rfl); (case hr => kernel_rfl); (try dsimp only [List.cons_append, List.nil_append]))
    ((with_reducible apply o_append (m2 := K.length) (news := KL K)); (case hx => rfl); (case hy => rfl); (case p => (repeat first | with_reducible exact Pull.head | apply Pull.tail)); (case hr => exact rdw_exM (by (repeat first | with_reducible exact Pull.head | apply Pull.tail)) (.tail _ (.head _))); (case hl => exact KL_lens K rfl); (case h1 => exact KL_ones K); (case hb => omega); (case hn => rfl))
    intro vk
    ((with_reducible apply TriN.back); (case hp => exact ⟨_, rfl⟩); (case p => (repeat first | exact Pulls.nil | (apply Pulls.cons; repeat first | with_reducible exact Pull.head | apply Pull.tail))))
    ((with_reducible apply TriN.a 17); (case ho => rfl); (case hg => rfl); (case hr => kernel_rfl); (try dsimp only [List.cons_append, List.nil_append]))
    ((with_reducible apply o_append (m2 := D.length) (news := NL D)); (case hx => rfl); (case hy => rfl); (case p => (repeat first | with_reducible exact Pull.head | apply Pull.tail)); (case hr => exact rdw_exM (by (repeat first | with_reducible exact Pull.head | apply Pull.tail)) (.tail _ (.tail _ (.head _)))); (case hl => exact NL_lens D rfl); (case h1 => exact NL_one5 D); (case hb => omega); (case hn => rfl))
    intro y6
    ((with_reducible apply TriN.back); (case hp => exact ⟨_, rfl⟩); (case p => (repeat first | exact Pulls.nil | (apply Pulls.cons; repeat first | with_reducible exact Pull.head | apply Pull.tail))))
    ((with_reducible apply TriN.a 20); (case ho => rfl); (case hg => rfl); (case hr => kernel_rfl); (try dsimp only [List.cons_append, List.nil_append]))
    ((with_reducible apply o_append (m2 := D.length) (news := NL D)); (case hx => rfl); (case hy => rfl); (case p => (repeat first | with_reducible exact Pull.head | apply Pull.tail)); (case hr => exact rdw_exM (by (repeat first | with_reducible exact Pull.head | apply Pull.tail)) (.tail _ (.tail _ (.head _)))); (case hl => exact NL_lens D rfl); (case h1 => exact NL_one5 D); (case hb => omega); (case hn => rfl))
    intro vd
    (refine Tri.shape (e := 103) (size := 8) (v := ve) (by (repeat first | with_reducible exact Pull.head | apply Pull.tail)) ?_; rintro ⟨A2, a2, rfl⟩)
    (refine Tri.shape (e := 101) (size := 2) (v := vk) (by (repeat first | with_reducible exact Pull.head | apply Pull.tail)) ?_; rintro ⟨B2, b2, rfl⟩)
    (refine Tri.shape (e := 3) (size := 1) (v := vd) (by (repeat first | with_reducible exact Pull.head | apply Pull.tail)) ?_; rintro ⟨C2, c2, rfl⟩)
    ((with_reducible apply TriN.back); (case hp => exact ⟨_, rfl⟩); (case p => (repeat first | exact Pulls.nil | (apply Pulls.cons; repeat first | with_reducible exact Pull.head | apply Pull.tail))))
    rotate_left
    ((with_reducible apply o_litSl (ys := [])); (case hp => (repeat first | exact pev.nil | (apply pev.cons; case a => rfl))); (case hm => rfl); (case hf => rfl); (case hn => rfl); intro y5)
    ((with_reducible apply TriN.back); (case hp => exact ⟨_, rfl⟩); (case p => (repeat first | exact Pulls.nil | (apply Pulls.cons; repeat first | with_reducible exact Pull.head | apply Pull.tail))))
    ((with_reducible apply TriN.a 10); (case ho => rfl); (case hg => rfl); (case hr => kernel_rfl); (try dsimp only [List.cons_append, List.nil_append]))
    ((with_reducible apply o_append (m2 := K.length) (news := KL K)); (case hx => rfl); (case hy => rfl); (case p => (repeat first | with_reducible exact Pull.head | apply Pull.tail)); (case hr => exact rdw_exM (by (repeat first | with_reducible exact Pull.head | apply Pull.tail)) (.tail _ (.head _))); (case hl => exact KL_lens K rfl); (case h1 => exact KL_ones K); (case hb => omega); (case hn => rfl))
    intro y4
    ((with_reducible apply TriN.back); (case hp => exact ⟨_, rfl⟩); (case p => (repeat first | exact Pulls.nil | (apply Pulls.cons; repeat first | with_reducible exact Pull.head | apply Pull.tail))))
    ((with_reducible apply TriN.a 13); (case ho => rfl); (case hg => rfl); (case hr => kernel_rfl); (try dsimp only [List.cons_append, List.nil_append]))
    ((with_reducible apply o_append (m2 := K.length) (news := KL K)); (case hx => rfl); (case hy => rfl); (case p => (repeat first | with_reducible exact Pull.head | apply Pull.tail)); (case hr => exact rdw_exM (by (repeat first | with_reducible exact Pull.head | apply Pull.tail)) (.tail _ (.head _))); (case hl => exact KL_lens K rfl); (case h1 => exact KL_ones K); (case hb => omega); (case hn => rfl))
    intro vk
    ((with_reducible apply TriN.back); (case hp => exact ⟨_, rfl⟩); (case p => (repeat first | exact Pulls.nil | (apply Pulls.cons; repeat first | with_reducible exact Pull.head | apply Pull.tail))))
    ((with_reducible apply TriN.a 17); (case ho => rfl); (case hg => rfl); (case hr => kernel_rfl); (try dsimp only [List.cons_append, List.nil_append]))
    ((with_reducible apply o_append (m2 := D.length) (news := NL D)); (case hx => rfl); (case hy => rfl); (case p => (repeat first | with_reducible exact Pull.head | apply Pull.tail)); (case hr => exact rdw_exM (by (repeat first | with_reducible exact Pull.head | apply Pull.tail)) (.tail _ (.tail _ (.head _)))); (case hl => exact NL_lens D rfl); (case h1 => exact NL_one5 D); (case hb => omega); (case hn => rfl))
    intro y6
    ((with_reducible apply TriN.back); (case hp => exact ⟨_, rfl⟩); (case p => (repeat first | exact Pulls.nil | (apply Pulls.cons; repeat first | with_reducible exact Pull.head | apply Pull.tail))))
    ((with_reducible apply TriN.a 20); (case ho => rfl); (case hg => rfl); (case hr => kernel_rfl); (try dsimp only [List.cons_append, List.nil_append]))
    ((with_reducible apply o_append (m2 := D.length) (news := NL D)); (case hx => rfl); (case hy => rfl); (case p => (repeat first | with_reducible exact Pull.head | apply Pull.tail)); (case hr => exact rdw_exM (by (repeat first | with_reducible exact Pull.head | apply Pull.tail)) (.tail _ (.tail _ (.head _)))); (case hl => exact NL_lens D rfl); (case h1 => exact NL_one5 D); (case hb => omega); (case hn => rfl))
    intro vd
    (refine Tri.shape (e := 103) (size := 8) (v := ve) (by (repeat first | with_reducible exact Pull.head | apply Pull.tail)) ?_; rintro ⟨A2, a2, rfl⟩)
    (refine Tri.shape (e := 101) (size := 2) (v := vk) (by (repeat first | with_reducible exact Pull.head | apply Pull.tail)) ?_; rintro ⟨B2, b2, rfl⟩)
    (refine Tri.shape (e := 3) (size := 1) (v := vd) (by (repeat first | with_reducible exact Pull.head | apply Pull.tail)) ?_; rintro ⟨C2, c2, rfl⟩)
    ((with_reducible apply TriN.back); (case hp => exact ⟨_, rfl⟩); (case p => (repeat first | exact Pulls.nil | (apply Pulls.cons; repeat first | with_reducible exact Pull.head | apply Pull.tail))))
    rotate_left
    ((with_reducible apply o_litSl (ys := [])); (case hp => (repeat first | exact pev.nil | (apply pev.cons; case a => rfl))); (case hm => rfl); (case hf => rfl); (case hn => rfl); intro y5)
    ((with_reducible apply TriN.back); (case hp => exact ⟨_, rfl⟩); (case p => (repeat first | exact Pulls.nil | (apply Pulls.cons; repeat first | with_reducible exact Pull.head | apply Pull.tail))))
    ((with_reducible apply TriN.a 7); (case ho => rfl); (case hg => rfl); (case hr => kernel_rfl); (try dsimp only [List.cons_append, List.nil_append]))
    ((with_reducible apply o_litSl (ys := [])); (case hp => (repeat first | exact pev.nil | (apply pev.cons; case a => rfl))); (case hm => rfl); (case hf => rfl); (case hn => rfl); intro y3)
    ((with_reducible apply TriN.back); (case hp => exact ⟨_, rfl⟩); (case p => (repeat first | exact Pulls.nil | (apply Pulls.cons; repeat first | with_reducible exact Pull.head | apply Pull.tail))))
    ((with_reducible apply TriN.a 10); (case ho => rfl); (case hg => rfl); (case hr => kernel_rfl); (try dsimp only [List.cons_append, List.nil_append]))
    ((with_reducible apply o_append (m2 := K.length) (news := KL K)); (case hx => rfl); (case hy => rfl); (case p => (repeat first | with_reducible exact Pull.head | apply Pull.tail)); (case hr => exact rdw_exM (by (repeat first | with_reducible exact Pull.head | apply Pull.tail)) (.tail _ (.head _))); (case hl => exact KL_lens K rfl); (case h1 => exact KL_ones K); (case hb => omega); (case hn => rfl))
    intro y4
    ((with_reducible apply TriN.back); (case hp => exact ⟨_, rfl⟩); (case p => (repeat first | exact Pulls.nil | (apply Pulls.cons; repeat first | with_reducible exact Pull.head | apply Pull.tail))))
    ((with_reducible apply TriN.a 13); (case ho => rfl); (case hg => rfl); (case hr => kernel_rfl); (try dsimp only [List.cons_append, List.nil_append]))
    ((with_reducible apply o_append (m2 := K.length) (news := KL K)); (case hx => rfl); (case hy => rfl); (case p => (repeat first | with_reducible exact Pull.head | apply Pull.tail)); (case hr => exact rdw_exM (by (repeat first | with_reducible exact Pull.head | apply Pull.tail)) (.tail _ (.head _))); (case hl => exact KL_lens K rfl); (case h1 => exact KL_ones K); (case hb => omega); (case hn => rfl))
    intro vk
    ((with_reducible apply TriN.back); (case hp => exact ⟨_, rfl⟩); (case p => (repeat first | exact Pulls.nil | (apply Pulls.cons; repeat first | with_reducible exact Pull.head | apply Pull.tail))))
    ((with_reducible apply TriN.a 17); (case ho => rfl); (case hg => rfl); (case hr => kernel_rfl); (try dsimp only [List.cons_append, List.nil_append]))
    ((with_reducible apply o_append (m2 := D.length) (news := NL D)); (case hx => rfl); (case hy => rfl); (case p => (repeat first | with_reducible exact Pull.head | apply Pull.tail)); (case hr => exact rdw_exM (by (repeat first | with_reducible exact Pull.head | apply Pull.tail)) (.tail _ (.tail _ (.head _)))); (case hl => exact NL_lens D rfl); (case h1 => exact NL_one5 D); (case hb => omega); (case hn => rfl))
    intro y6
    ((with_reducible apply TriN.back); (case hp => exact ⟨_, rfl⟩); (case p => (repeat first | exact Pulls.nil | (apply Pulls.cons; repeat first | with_reducible exact Pull.head | apply Pull.tail))))
    ((with_reducible apply TriN.a 20); (case ho => rfl); (case hg => rfl); (case hr => kernel_rfl); (try dsimp only [List.cons_append, List.nil_append]))
    ((with_reducible apply o_append (m2 := D.length) (news := NL D)); (case hx => rfl); (case hy => rfl); (case p => (repeat first | with_reducible exact Pull.head | apply Pull.tail)); (case hr => exact rdw_exM (by (repeat first | with_reducible exact Pull.head | apply Pull.tail)) (.tail _ (.tail _ (.head _)))); (case hl => exact NL_lens D rfl); (case h1 => exact NL_one5 D); (case hb => omega); (case hn => rfl))
    intro vd
    (refine Tri.shape (e := 103) (size := 8) (v := ve) (by (repeat first | with_reducible exact Pull.head | apply Pull.tail)) ?_; rintro ⟨A2, a2, rfl⟩)
    (refine Tri.shape (e := 101) (size := 2) (v := vk) (by (repeat first | with_reducible exact Pull.head | apply Pull.tail)) ?_; rintro ⟨B2, b2, rfl⟩)
    (refine Tri.shape (e := 3) (size := 1) (v := vd) (by (repeat first | with_reducible exact Pull.head | apply Pull.tail)) ?_; rintro ⟨C2, c2, rfl⟩)
    ((with_reducible apply TriN.back); (case hp => exact ⟨_, rfl⟩); (case p => (repeat first | exact Pulls.nil | (apply Pulls.cons; repeat first | with_reducible exact Pull.head | apply Pull.tail))))
    rotate_left
    ((with_reducible apply o_litSl (ys := [])); (case hp => (repeat first | exact pev.nil | (apply pev.cons; case a => rfl))); (case hm => rfl); (case hf => rfl); (case hn => rfl); intro y3)
    ((with_reducible apply TriN.back); (case hp => exact ⟨_, rfl⟩); (case p => (repeat first | exact Pulls.nil | (apply Pulls.cons; repeat first | with_reducible exact Pull.head | apply Pull.tail))))
    ((with_reducible apply TriN.a2 6 14); (case hoi => rfl); (case hoj => rfl); (case hgi => rfl); (case hgj => rfl); (case hr => kernel_rfl); (all_goals (try dsimp only [List.cons_append, List.nil_append])))
    ((with_reducible apply o_append (m2 := E.length) (news := EL E)); (case hx => rfl); (case hy => rfl); (case p => (repeat first | with_reducible exact Pull.head | apply Pull.tail)); (case hr => exact rdw_exM (by (repeat first | with_reducible exact Pull.head | apply Pull.tail)) (.head _)); (case hl => exact EL_lens E rfl); (case h1 => exact EL_ones E); (case hb => omega); (case hn => rfl))
    intro ve
    ((with_reducible apply TriN.back); (case hp => exact ⟨_, rfl⟩); (case p => (repeat first | exact Pulls.nil | (apply Pulls.cons; repeat first | with_reducible exact Pull.head | apply Pull.tail))))
    (((with_reducible apply TriN.p 21); (case ho => rfl); (case hg => rfl); (case hB => kernel_rfl); (case hd => rfl); (case hn => rfl); (case h => (intro F K hK; (try dsimp only [List.cons_append, List.nil_append]); (with_reducible apply o_fieldAddr); rfl; rfl; exact hK))))
    ((with_reducible apply TriN.a2 10 14); (case hoi => rfl); (case hoj => rfl); (case hgi => rfl); (case hgj => rfl); (case hr => kernel_rfl); (all_goals (try dsimp only [List.cons_append, List.nil_append])))
    ((with_reducible apply o_append (m2 := K.length) (news := KL K)); (case hx => rfl); (case hy => rfl); (case p => (repeat first | with_reducible exact Pull.head | apply Pull.tail)); (case hr => exact rdw_exM (by (repeat first | with_reducible exact Pull.head | apply Pull.tail)) (.tail _ (.head _))); (case hl => exact KL_lens K rfl); (case h1 => exact KL_ones K); (case hb => omega); (case hn => rfl))
    intro y4
    ((with_reducible apply TriN.back); (case hp => exact ⟨_, rfl⟩); (case p => (repeat first | exact Pulls.nil | (apply Pulls.cons; repeat first | with_reducible exact Pull.head | apply Pull.tail))))
    ((with_reducible apply TriN.a2 13 14); (case hoi => rfl); (case hoj => rfl); (case hgi => rfl); (case hgj => rfl); (case hr => kernel_rfl); (all_goals (try dsimp only [List.cons_append, List.nil_append])))
    ((with_reducible apply o_append (m2 := K.length) (news := KL K)); (case hx => rfl); (case hy => rfl); (case p => (repeat first | with_reducible exact Pull.head | apply Pull.tail)); (case hr => exact rdw_exM (by (repeat first | with_reducible exact Pull.head | apply Pull.tail)) (.tail _ (.head _))); (case hl => exact KL_lens K rfl); (case h1 => exact KL_ones K); (case hb => omega); (case hn => rfl))
    intro vk
    ((with_reducible apply TriN.back); (case hp => exact ⟨_, rfl⟩); (case p => (repeat first | exact Pulls.nil | (apply Pulls.cons; repeat first | with_reducible exact Pull.head | apply Pull.tail))))
    ((with_reducible apply TriN.a 14); (case ho => rfl); (case hg => rfl); (case hr => kernel_rfl); (try dsimp only [List.cons_append, List.nil_append]))
    ((with_reducible apply o_litSl (ys := [])); (case hp => (repeat first | exact pev.nil | (apply pev.cons; case a => rfl))); (case hm => rfl); (case hf => rfl); (case hn => rfl); intro y5)
    ((with_reducible apply TriN.back); (case hp => exact ⟨_, rfl⟩); (case p => (repeat first | exact Pulls.nil | (apply Pulls.cons; repeat first | with_reducible exact Pull.head | apply Pull.tail))))
    ((with_reducible apply TriN.a 17); (case ho => rfl); (case hg => rfl); (case hr => kernel_rfl); (try dsimp only [List.cons_append, List.nil_append]))
    ((with_reducible apply o_append (m2 := D.length) (news := NL D)); (case hx => rfl); (case hy => rfl); (case p => (repeat first | with_reducible exact Pull.head | apply Pull.tail)); (case hr => exact rdw_exM (by (repeat first | with_reducible exact Pull.head | apply Pull.tail)) (.tail _ (.tail _ (.head _)))); (case hl => exact NL_lens D rfl); (case h1 => exact NL_one5 D); (case hb => omega); (case hn => rfl))
    intro y6
    ((with_reducible apply TriN.back); (case hp => exact ⟨_, rfl⟩); (case p => (repeat first | exact Pulls.nil | (apply Pulls.cons; repeat first | with_reducible exact Pull.head | apply Pull.tail))))
    ((with_reducible apply TriN.a 20); (case ho => rfl); (case hg => rfl); (case hr => kernel_rfl); (try dsimp only [List.cons_append, List.nil_append]))
    ((with_reducible apply o_append (m2 := D.length) (news := NL D)); (case hx => rfl); (case hy => rfl); (case p => (repeat first | with_reducible exact Pull.head | apply Pull.tail)); (case hr => exact rdw_exM (by (repeat first | with_reducible exact Pull.head | apply Pull.tail)) (.tail _ (.tail _ (.head _)))); (case hl => exact NL_lens D rfl); (case h1 => exact NL_one5 D); (case hb => omega); (case hn => rfl))
    intro vd
    (refine Tri.shape (e := 103) (size := 8) (v := ve) (by (repeat first | with_reducible exact Pull.head | apply Pull.tail)) ?_; rintro ⟨A2, a2, rfl⟩)
    (refine Tri.shape (e := 101) (size := 2) (v := vk) (by (repeat first | with_reducible exact Pull.head | apply Pull.tail)) ?_; rintro ⟨B2, b2, rfl⟩)
    (refine Tri.shape (e := 3) (size := 1) (v := vd) (by (repeat first | with_reducible exact Pull.head | apply Pull.tail)) ?_; rintro ⟨C2, c2, rfl⟩)
    ((with_reducible apply TriN.back); (case hp => exact ⟨_, rfl⟩); (case p => (repeat first | exact Pulls.nil | (apply Pulls.cons; repeat first | with_reducible exact Pull.head | apply Pull.tail))))
    rotate_left
    ((with_reducible apply o_litSl (ys := [])); (case hp => (repeat first | exact pev.nil | (apply pev.cons; case a => rfl))); (case hm => rfl); (case hf => rfl); (case hn => rfl); intro y5)
    ((with_reducible apply TriN.back); (case hp => exact ⟨_, rfl⟩); (case p => (repeat first | exact Pulls.nil | (apply Pulls.cons; repeat first | with_reducible exact Pull.head | apply Pull.tail))))
    ((with_reducible apply TriN.a 13); (case ho => rfl); (case hg => rfl); (case hr => kernel_rfl); (try dsimp only [List.cons_append, List.nil_append]))
    ((with_reducible apply o_append (m2 := K.length) (news := KL K)); (case hx => rfl); (case hy => rfl); (case p => (repeat first | with_reducible exact Pull.head | apply Pull.tail)); (case hr => exact rdw_exM (by (repeat first | with_reducible exact Pull.head | apply Pull.tail)) (.tail _ (.head _))); (case hl => exact KL_lens K rfl); (case h1 => exact KL_ones K); (case hb => omega); (case hn => rfl))
    intro vk
    ((with_reducible apply TriN.back); (case hp => exact ⟨_, rfl⟩); (case p => (repeat first | exact Pulls.nil | (apply Pulls.cons; repeat first | with_reducible exact Pull.head | apply Pull.tail))))
    ((with_reducible apply TriN.a 17); (case ho => rfl); (case hg => rfl); (case hr => kernel_rfl); (try dsimp only [List.cons_append, List.nil_append]))
    ((with_reducible apply o_append (m2 := D.length) (news := NL D)); (case hx => rfl); (case hy => rfl); (case p => (repeat first | with_reducible exact Pull.head | apply Pull.tail)); (case hr => exact rdw_exM (by (repeat first | with_reducible exact Pull.head | apply Pull.tail)) (.tail _ (.tail _ (.head _)))); (case hl => exact NL_lens D rfl); (case h1 => exact NL_one5 D); (case hb => omega); (case hn => rfl))
    intro y6
    ((with_reducible apply TriN.back); (case hp => exact ⟨_, rfl⟩); (case p => (repeat first | exact Pulls.nil | (apply Pulls.cons; repeat first | with_reducible exact Pull.head | apply Pull.tail))))
    ((with_reducible apply TriN.a 20); (case ho => rfl); (case hg => rfl); (case hr => kernel_rfl); (try dsimp only [List.cons_append, List.nil_append]))
    ((with_reducible apply o_append (m2 := D.length) (news := NL D)); (case hx => rfl); (case hy => rfl); (case p => (repeat first | with_reducible exact Pull.head | apply Pull.tail)); (case hr => exact rdw_exM (by (repeat first | with_reducible exact Pull.head | apply Pull.tail)) (.tail _ (.tail _ (.head _)))); (case hl => exact NL_lens D rfl); (case h1 => exact NL_one5 D); (case hb => omega); (case hn => rfl))
    intro vd
    (refine Tri.shape (e := 103) (size := 8) (v := ve) (by (repeat first | with_reducible exact Pull.head | apply Pull.tail)) ?_; rintro ⟨A2, a2, rfl⟩)
    (refine Tri.shape (e := 101) (size := 2) (v := vk) (by (repeat first | with_reducible exact Pull.head | apply Pull.tail)) ?_; rintro ⟨B2, b2, rfl⟩)
    (refine Tri.shape (e := 3) (size := 1) (v := vd) (by (repeat first | with_reducible exact Pull.head | apply Pull.tail)) ?_; rintro ⟨C2, c2, rfl⟩)
    ((with_reducible apply TriN.back); (case hp => exact ⟨_, rfl⟩); (case p => (repeat first | exact Pulls.nil | (apply Pulls.cons; repeat first | with_reducible exact Pull.head | apply Pull.tail))))
    rotate_left
    ((with_reducible apply o_litSl (ys := [])); (case hp => (repeat first | exact pev.nil | (apply pev.cons; case a => rfl))); (case hm => rfl); (case hf => rfl); (case hn => rfl); intro y5)
    ((with_reducible apply TriN.back); (case hp => exact ⟨_, rfl⟩); (case p => (repeat first | exact Pulls.nil | (apply Pulls.cons; repeat first | with_reducible exact Pull.head | apply Pull.tail))))
    ((with_reducible apply TriN.a 10); (case ho => rfl); (case hg => rfl); (case hr => kernel_rfl); (try dsimp only [List.cons_append, List.nil_append]))
    ((with_reducible apply o_append (m2 := K.length) (news := KL K)); (case hx => rfl); (case hy => rfl); (case p => (repeat first | with_reducible exact Pull.head | apply Pull.tail)); (case hr => exact rdw_exM (by (repeat first | with_reducible exact Pull.head | apply Pull.tail)) (.tail _ (.head _))); (case hl => exact KL_lens K rfl); (case h1 => exact KL_ones K); (case hb => omega); (case hn => rfl))
    intro y4
    ((with_reducible apply TriN.back); (case hp => exact ⟨_, rfl⟩); (case p => (repeat first | exact Pulls.nil | (apply Pulls.cons; repeat first | with_reducible exact Pull.head | apply Pull.tail))))
    ((with_reducible apply TriN.a 13); (case ho => rfl); (case hg => rfl); (case hr => kernel_rfl); (try dsimp only [List.cons_append, List.nil_append]))
    ((with_reducible apply o_append (m2 := K.length) (news := KL K)); (case hx => rfl); (case hy => rfl); (case p => (repeat first | with_reducible exact Pull.head | apply Pull.tail)); (case hr => exact rdw_exM (by (repeat first | with_reducible exact Pull.head | apply Pull.tail)) (.tail _ (.head _))); (case hl => exact KL_lens K rfl); (case h1 => exact KL_ones K); (case hb => omega); (case hn => rfl))
    intro vk
    ((with_reducible apply TriN.back); (case hp => exact ⟨_, rfl⟩); (case p => (repeat first | exact Pulls.nil | (apply Pulls.cons; repeat first | with_reducible exact Pull.head | apply Pull.tail))))
    ((with_reducible apply TriN.a 17); (case ho => rfl); (case hg => rfl); (case hr => kernel_rfl); (try dsimp only [List.cons_append, List.nil_append]))
    ((with_reducible apply o_append (m2 := D.length) (news := NL D)); (case hx => rfl); (case hy => rfl); (case p => (repeat first | with_reducible exact Pull.head | apply Pull.tail)); (case hr => exact rdw_exM (by (repeat first | with_reducible exact Pull.head | apply Pull.tail)) (.tail _ (.tail _ (.head _)))); (case hl => exact NL_lens D rfl); (case h1 => exact NL_one5 D); (case hb => omega); (case hn => rfl))
    intro y6
    ((with_reducible apply TriN.back); (case hp => exact ⟨_, rfl⟩); (case p => (repeat first | exact Pulls.nil | (apply Pulls.cons; repeat first | with_reducible exact Pull.head | apply Pull.tail))))
    ((with_reducible apply TriN.a 20); (case ho => rfl); (case hg => rfl); (case hr => kernel_rfl); (try dsimp only [List.cons_append, List.nil_append]))
    ((with_reducible apply o_append (m2 := D.length) (news := NL D)); (case hx => rfl); (case hy => rfl); (case p => (repeat first | with_reducible exact Pull.head | apply Pull.tail)); (case hr => exact rdw_exM (by (repeat first | with_reducible exact Pull.head | apply Pull.tail)) (.tail _ (.tail _ (.head _)))); (case hl => exact NL_lens D rfl); (case h1 => exact NL_one5 D); (case hb => omega); (case hn => rfl))
    intro vd
    (refine Tri.shape (e := 103) (size := 8) (v := ve) (by (repeat first | with_reducible exact Pull.head | apply Pull.tail)) ?_; rintro ⟨A2, a2, rfl⟩)
    (refine Tri.shape (e := 101) (size := 2) (v := vk) (by (repeat first | with_reducible exact Pull.head | apply Pull.tail)) ?_; rintro ⟨B2, b2, rfl⟩)
    (refine Tri.shape (e := 3) (size := 1) (v := vd) (by (repeat first | with_reducible exact Pull.head | apply Pull.tail)) ?_; rintro ⟨C2, c2, rfl⟩)
    ((with_reducible apply TriN.back); (case hp => exact ⟨_, rfl⟩); (case p => (repeat first | exact Pulls.nil | (apply Pulls.cons; repeat first | with_reducible exact Pull.head | apply Pull.tail))))
    rotate_left
    ((with_reducible apply o_litSl (ys := [])); (case hp => (repeat first | exact pev.nil | (apply pev.cons; case a => rfl))); (case hm => rfl); (case hf => rfl); (case hn => rfl); intro y5)
    ((with_reducible apply TriN.back); (case hp => exact ⟨_, rfl⟩); (case p => (repeat first | exact Pulls.nil | (apply Pulls.cons; repeat first | with_reducible exact Pull.head | apply Pull.tail))))
    ((with_reducible apply TriN.a 6); (case ho => rfl); (case hg => rfl); (case hr => kernel_rfl); (try dsimp only [List.cons_append, List.nil_append]))
    ((with_reducible apply o_append (m2 := E.length) (news := EL E)); (case hx => rfl); (case hy => rfl); (case p => (repeat first | with_reducible exact Pull.head | apply Pull.tail)); (case hr => exact rdw_exM (by (repeat first | with_reducible exact Pull.head | apply Pull.tail)) (.head _)); (case hl => exact EL_lens E rfl); (case h1 => exact EL_ones E); (case hb => omega); (case hn => rfl))
    intro ve
    ((with_reducible apply TriN.back); (case hp => exact ⟨_, rfl⟩); (case p => (repeat first | exact Pulls.nil | (apply Pulls.cons; repeat first | with_reducible exact Pull.head | apply Pull.tail))))
    (((with_reducible apply TriN.p 21); (case ho => rfl); (case hg => rfl); (case hB => kernel_rfl); (case hd => rfl); (case hn => rfl); (case h => (intro F K hK; (try dsimp only [List.cons_append, List.nil_append]); (with_reducible apply o_fieldAddr); rfl; rfl; exact hK))))
    ((with_reducible apply TriN.a 10); (case ho => rfl); (case hg => rfl); (case hr => kernel_rfl); (try dsimp only [List.cons_append, List.nil_append]))
    ((with_reducible apply o_append (m2 := K.length) (news := KL K)); (case hx => rfl); (case hy => rfl); (case p => (repeat first | with_reducible exact Pull.head | apply Pull.tail)); (case hr => exact rdw_exM (by (repeat first | with_reducible exact Pull.head | apply Pull.tail)) (.tail _ (.head _))); (case hl => exact KL_lens K rfl); (case h1 => exact KL_ones K); (case hb => omega); (case hn => rfl))
    intro y4
    ((with_reducible apply TriN.back); (case hp => exact ⟨_, rfl⟩); (case p => (repeat first | exact Pulls.nil | (apply Pulls.cons; repeat first | with_reducible exact Pull.head | apply Pull.tail))))
    ((with_reducible apply TriN.a 13); (case ho => rfl); (case hg => rfl); (case hr => kernel_rfl); (try dsimp only [List.cons_append, List.nil_append]))
    ((with_reducible apply o_append (m2 := K.length) (news := KL K)); (case hx => rfl); (case hy => rfl); (case p => (repeat first | with_reducible exact Pull.head | apply Pull.tail)); (case hr => exact rdw_exM (by (repeat first | with_reducible exact Pull.head | apply Pull.tail)) (.tail _ (.head _))); (case hl => exact KL_lens K rfl); (case h1 => exact KL_ones K); (case hb => omega); (case hn => rfl))
    intro vk
    ((with_reducible apply TriN.back); (case hp => exact ⟨_, rfl⟩); (case p => (repeat first | exact Pulls.nil | (apply Pulls.cons; repeat first | with_reducible exact Pull.head | apply Pull.tail))))
    ((with_reducible apply TriN.a 17); (case ho => rfl); (case hg => rfl); (case hr => kernel_rfl); (try dsimp only [List.cons_append, List.nil_append]))
    ((with_reducible apply o_append (m2 := D.length) (news := NL D)); (case hx => rfl); (case hy => rfl); (case p => (repeat first | with_reducible exact Pull.head | apply Pull.tail)); (case hr => exact rdw_exM (by (repeat first | with_reducible exact Pull.head | apply Pull.tail)) (.tail _ (.tail _ (.head _)))); (case hl => exact NL_lens D rfl); (case h1 => exact NL_one5 D); (case hb => omega); (case hn => rfl))
    intro y6
    ((with_reducible apply TriN.back); (case hp => exact ⟨_, rfl⟩); (case p => (repeat first | exact Pulls.nil | (apply Pulls.cons; repeat first | with_reducible exact Pull.head | apply Pull.tail))))
    ((with_reducible apply TriN.a 20); (case ho => rfl); (case hg => rfl); (case hr => kernel_rfl); (try dsimp only [List.cons_append, List.nil_append]))
    ((with_reducible apply o_append (m2 := D.length) (news := NL D)); (case hx => rfl); (case hy => rfl); (case p => (repeat first | with_reducible exact Pull.head | apply Pull.tail)); (case hr => exact rdw_exM (by (repeat first | with_reducible exact Pull.head | apply Pull.tail)) (.tail _ (.tail _ (.head _)))); (case hl => exact NL_lens D rfl); (case h1 => exact NL_one5 D); (case hb => omega); (case hn => rfl))
    intro vd
    (refine Tri.shape (e := 103) (size := 8) (v := ve) (by (repeat first | with_reducible exact Pull.head | apply Pull.tail)) ?_; rintro ⟨A2, a2, rfl⟩)
    (refine Tri.shape (e := 101) (size := 2) (v := vk) (by (repeat first | with_reducible exact Pull.head | apply Pull.tail)) ?_; rintro ⟨B2, b2, rfl⟩)
    (refine Tri.shape (e := 3) (size := 1) (v := vd) (by (repeat first | with_reducible exact Pull.head | apply Pull.tail)) ?_; rintro ⟨C2, c2, rfl⟩)
    ((with_reducible apply TriN.back); (case hp => exact ⟨_, rfl⟩); (case p => (repeat first | exact Pulls.nil | (apply Pulls.cons; repeat first | with_reducible exact Pull.head | apply Pull.tail))))
    rotate_left
    ((with_reducible apply o_litSl (ys := [])); (case hp => (repeat first | exact pev.nil | (apply pev.cons; case a => rfl))); (case hm => rfl); (case hf => rfl); (case hn => rfl); intro y5)
    ((with_reducible apply TriN.back); (case hp => exact ⟨_, rfl⟩); (case p => (repeat first | exact Pulls.nil | (apply Pulls.cons; repeat first | with_reducible exact Pull.head | apply Pull.tail))))
    ((with_reducible apply TriN.a2 6 7); (case hoi => rfl); (case hoj => rfl); (case hgi => rfl); (case hgj => rfl); (case hr => kernel_rfl); (all_goals (try dsimp only [List.cons_append, List.nil_append])))
    ((with_reducible apply o_append (m2 := E.length) (news := EL E)); (case hx => rfl); (case hy => rfl); (case p => (repeat first | with_reducible exact Pull.head | apply Pull.tail)); (case hr => exact rdw_exM (by (repeat first | with_reducible exact Pull.head | apply Pull.tail)) (.head _)); (case hl => exact EL_lens E rfl); (case h1 => exact EL_ones E); (case hb => omega); (case hn => rfl))
    intro ve
    ((with_reducible apply TriN.back); (case hp => exact ⟨_, rfl⟩); (case p => (repeat first | exact Pulls.nil | (apply Pulls.cons; repeat first | with_reducible exact Pull.head | apply Pull.tail))))
    (((with_reducible apply TriN.p 21); (case ho => rfl); (case hg => rfl); (case hB => kernel_rfl); (case hd => rfl); (case hn => rfl); (case h => (intro F K hK; (try dsimp only [List.cons_append, List.nil_append]); (with_reducible apply o_fieldAddr); rfl; rfl; exact hK))))
    ((with_reducible apply TriN.a 7); (case ho => rfl); (case hg => rfl); (case hr => kernel_rfl); (try dsimp only [List.cons_append, List.nil_append]))
    ((with_reducible apply o_litSl (ys := [])); (case hp => (repeat first | exact pev.nil | (apply pev.cons; case a => rfl))); (case hm => rfl); (case hf => rfl); (case hn => rfl); intro y3)
    ((with_reducible apply TriN.back); (case hp => exact ⟨_, rfl⟩); (case p => (repeat first | exact Pulls.nil | (apply Pulls.cons; repeat first | with_reducible exact Pull.head | apply Pull.tail))))
    ((with_reducible apply TriN.a 10); (case ho => rfl); (case hg => rfl); (case hr => kernel_rfl); (try dsimp only [List.cons_append, List.nil_append]))
    ((with_reducible apply o_append (m2 := K.length) (news := KL K)); (case hx => rfl); (case hy => rfl); (case p => (repeat first | with_reducible exact Pull.head | apply Pull.tail)); (case hr => exact rdw_exM (by (repeat first | with_reducible exact Pull.head | apply Pull.tail)) (.tail _ (.head _))); (case hl => exact KL_lens K rfl); (case h1 => exact KL_ones K); (case hb => omega); (case hn => rfl))
    intro y4
    ((with_reducible apply TriN.back); (case hp => exact ⟨_, rfl⟩); (case p => (repeat first | exact Pulls.nil | (apply Pulls.cons; repeat first | with_reducible exact Pull.head | apply Pull.tail))))
    ((with_reducible apply TriN.a 13); (case ho => rfl); (case hg => rfl); (case hr => kernel_rfl); (try dsimp only [List.cons_append, List.nil_append]))
    ((with_reducible apply o_append (m2 := K.length) (news := KL K)); (case hx => rfl); (case hy => rfl); (case p => (repeat first | with_reducible exact Pull.head | apply Pull.tail)); (case hr => exact rdw_exM (by (repeat first | with_reducible exact Pull.head | apply Pull.tail)) (.tail _ (.head _))); (case hl => exact KL_lens K rfl); (case h1 => exact KL_ones K); (case hb => omega); (case hn => rfl))
    intro vk
    ((with_reducible apply TriN.back); (case hp => exact ⟨_, rfl⟩); (case p => (repeat first | exact Pulls.nil | (apply Pulls.cons; repeat first | with_reducible exact Pull.head | apply Pull.tail))))
    ((with_reducible apply TriN.a 17); (case ho => rfl); (case hg => rfl); (case hr => kernel_rfl); (try dsimp only [List.cons_append, List.nil_append]))
    ((with_reducible apply o_append (m2 := D.length) (news := NL D)); (case hx => rfl); (case hy => rfl); (case p => (repeat first | with_reducible exact Pull.head | apply Pull.tail)); (case hr => exact rdw_exM (by (repeat first | with_reducible exact Pull.head | apply Pull.tail)) (.tail _ (.tail _ (.head _)))); (case hl => exact NL_lens D rfl); (case h1 => exact NL_one5 D); (case hb => omega); (case hn => rfl))
    intro y6
    ((with_reducible apply TriN.back); (case hp => exact ⟨_, rfl⟩); (case p => (repeat first | exact Pulls.nil | (apply Pulls.cons; repeat first | with_reducible exact Pull.head | apply Pull.tail))))
    ((with_reducible apply TriN.a 20); (case ho => rfl); (case hg => rfl); (case hr => kernel_rfl); (try dsimp only [List.cons_append, List.nil_append]))
    ((with_reducible apply o_append (m2 := D.length) (news := NL D)); (case hx => rfl); (case hy => rfl); (case p => (repeat first | with_reducible exact Pull.head | apply Pull.tail)); (case hr => exact rdw_exM (by (repeat first | with_reducible exact Pull.head | apply Pull.tail)) (.tail _ (.tail _ (.head _)))); (case hl => exact NL_lens D rfl); (case h1 => exact NL_one5 D); (case hb => omega); (case hn => rfl))
    intro vd
    (refine Tri.shape (e := 103) (size := 8) (v := ve) (by (repeat first | with_reducible exact Pull.head | apply Pull.tail)) ?_; rintro ⟨A2, a2, rfl⟩)
    (refine Tri.shape (e := 101) (size := 2) (v := vk) (by (repeat first | with_reducible exact Pull.head | apply Pull.tail)) ?_; rintro ⟨B2, b2, rfl⟩)
    (refine Tri.shape (e := 3) (size := 1) (v := vd) (by (repeat first | with_reducible exact Pull.head | apply Pull.tail)) ?_; rintro ⟨C2, c2, rfl⟩)
    ((with_reducible apply TriN.back); (case hp => exact ⟨_, rfl⟩); (case p => (repeat first | exact Pulls.nil | (apply Pulls.cons; repeat first | with_reducible exact Pull.head | apply Pull.tail))))
    rotate_left
    ((with_reducible apply o_litSl (ys := [])); (case hp => (repeat first | exact pev.nil | (apply pev.cons; case a => rfl))); (case hm => rfl); (case hf => rfl); (case hn => rfl); intro y3)
    ((with_reducible apply TriN.back); (case hp => exact ⟨_, rfl⟩); (case p => (repeat first | exact Pulls.nil | (apply Pulls.cons; repeat first | with_reducible exact Pull.head | apply Pull.tail))))
    ((with_reducible apply TriN.a 6); (case ho => rfl); (case hg => rfl); (case hr => kernel_rfl); (try dsimp only [List.cons_append, List.nil_append]))
    ((with_reducible apply o_append (m2 := E.length) (news := EL E)); (case hx => rfl); (case hy => rfl); (case p => (repeat first | with_reducible exact Pull.head | apply Pull.tail)); (case hr => exact rdw_exM (by (repeat first | with_reducible exact Pull.head | apply Pull.tail)) (.head _)); (case hl => exact EL_lens E rfl); (case h1 => exact EL_ones E); (case hb => omega); (case hn => rfl))
    intro ve
    ((with_reducible apply TriN.back); (case hp => exact ⟨_, rfl⟩); (case p => (repeat first | exact Pulls.nil | (apply Pulls.cons; repeat first | with_reducible exact Pull.head | apply Pull.tail))))
    (((with_reducible apply TriN.p 21); (case ho => rfl); (case hg => rfl); (case hB => kernel_rfl); (case hd => rfl); (case hn => rfl); (case h => (intro F K hK; (try dsimp only [List.cons_append, List.nil_append]); (with_reducible apply o_fieldAddr); rfl; rfl; exact hK))))
    ((with_reducible apply TriN.a 10); (case ho => rfl); (case hg => rfl); (case hr => kernel_rfl); (try dsimp only [List.cons_append, List.nil_append]))
    ((with_reducible apply o_append (m2 := K.length) (news := KL K)); (case hx => rfl); (case hy => rfl); (case p => (repeat first | with_reducible exact Pull.head | apply Pull.tail)); (case hr => exact rdw_exM (by (repeat first | with_reducible exact Pull.head | apply Pull.tail)) (.tail _ (.head _))); (case hl => exact KL_lens K rfl); (case h1 => exact KL_ones K); (case hb => omega); (case hn => rfl))
    intro y4
    ((with_reducible apply TriN.back); (case hp => exact ⟨_, rfl⟩); (case p => (repeat first | exact Pulls.nil | (apply Pulls.cons; repeat first | with_reducible exact Pull.head | apply Pull.tail))))
    ((with_reducible apply TriN.a 13); (case ho => rfl); (case hg => rfl); (case hr => kernel_rfl); (try dsimp only [List.cons_append, List.nil_append]))
    ((with_reducible apply o_append (m2 := K.length) (news := KL K)); (case hx => rfl); (case hy => rfl); (case p => (repeat first | with_reducible exact Pull.head | apply Pull.tail)); (case hr => exact rdw_exM (by (repeat first | with_reducible exact Pull.head | apply Pull.tail)) (.tail _ (.head _))); (case hl => exact KL_lens K rfl); (case h1 => exact KL_ones K); (case hb => omega); (case hn => rfl))
    intro vk
    ((with_reducible apply TriN.back); (case hp => exact ⟨_, rfl⟩); (case p => (repeat first | exact Pulls.nil | (apply Pulls.cons; repeat first | with_reducible exact Pull.head | apply Pull.tail))))
    ((with_reducible apply TriN.a 17); (case ho => rfl); (case hg => rfl); (case hr => kernel_rfl); (try dsimp only [List.cons_append, List.nil_append]))
    ((with_reducible apply o_append (m2 := D.length) (news := NL D)); (case hx => rfl); (case hy => rfl); (case p => (repeat first | with_reducible exact Pull.head | apply Pull.tail)); (case hr => exact rdw_exM (by (repeat first | with_reducible exact Pull.head | apply Pull.tail)) (.tail _ (.tail _ (.head _)))); (case hl => exact NL_lens D rfl); (case h1 => exact NL_one5 D); (case hb => omega); (case hn => rfl))
    intro y6
    ((with_reducible apply TriN.back); (case hp => exact ⟨_, rfl⟩); (case p => (repeat first | exact Pulls.nil | (apply Pulls.cons; repeat first | with_reducible exact Pull.head | apply Pull.tail))))
    ((with_reducible apply TriN.a 20); (case ho => rfl); (case hg => rfl); (case hr => kernel_rfl); (try dsimp only [List.cons_append, List.nil_append]))
    ((with_reducible apply o_append (m2 := D.length) (news := NL D)); (case hx => rfl); (case hy => rfl); (case p => (repeat first | with_reducible exact Pull.head | apply Pull.tail)); (case hr => exact rdw_exM (by (repeat first | with_reducible exact Pull.head | apply Pull.tail)) (.tail _ (.tail _ (.head _)))); (case hl => exact NL_lens D rfl); (case h1 => exact NL_one5 D); (case hb => omega); (case hn => rfl))
    intro vd
    (refine Tri.shape (e := 103) (size := 8) (v := ve) (by (repeat first | with_reducible exact Pull.head | apply Pull.tail)) ?_; rintro ⟨A2, a2, rfl⟩)
    (refine Tri.shape (e := 101) (size := 2) (v := vk) (by (repeat first | with_reducible exact Pull.head | apply Pull.tail)) ?_; rintro ⟨B2, b2, rfl⟩)
    (refine Tri.shape (e := 3) (size := 1) (v := vd) (by (repeat first | with_reducible exact Pull.head | apply Pull.tail)) ?_; rintro ⟨C2, c2, rfl⟩)
    ((with_reducible apply TriN.back); (case hp => exact ⟨_, rfl⟩); (case p => (repeat first | exact Pulls.nil | (apply Pulls.cons; repeat first | with_reducible exact Pull.head | apply Pull.tail))))
    rotate_left
    ((with_reducible apply o_litSl (ys := [])); (case hp => (repeat first | exact pev.nil | (apply pev.cons; case a => rfl))); (case hm => rfl); (case hf => rfl); (case hn => rfl); intro y3)
    ((with_reducible apply TriN.back); (case hp => exact ⟨_, rfl⟩); (case p => (repeat first | exact Pulls.nil | (apply Pulls.cons; repeat first | with_reducible exact Pull.head | apply Pull.tail))))
    ((with_reducible apply TriN.a2 3 14); (case hoi => rfl); (case hoj => rfl); (case hgi => rfl); (case hgj => rfl); (case hr => kernel_rfl); (all_goals (try dsimp only [List.cons_append, List.nil_append])))
    ((with_reducible apply o_append (m2 := E.length) (news := EL E)); (case hx => rfl); (case hy => rfl); (case p => (repeat first | with_reducible exact Pull.head | apply Pull.tail)); (case hr => exact rdw_exM (by (repeat first | with_reducible exact Pull.head | apply Pull.tail)) (.head _)); (case hl => exact EL_lens E rfl); (case h1 => exact EL_ones E); (case hb => omega); (case hn => rfl))
    intro y2
    ((with_reducible apply TriN.back); (case hp => exact ⟨_, rfl⟩); (case p => (repeat first | exact Pulls.nil | (apply Pulls.cons; repeat first | with_reducible exact Pull.head | apply Pull.tail))))
    ((with_reducible apply TriN.a2 6 14); (case hoi => rfl); (case hoj => rfl); (case hgi => rfl); (case hgj => rfl); (case hr => kernel_rfl); (all_goals (try dsimp only [List.cons_append, List.nil_append])))
    ((with_reducible apply o_append (m2 := E.length) (news := EL E)); (case hx => rfl); (case hy => rfl); (case p => (repeat first | with_reducible exact Pull.head | apply Pull.tail)); (case hr => exact rdw_exM (by (repeat first | with_reducible exact Pull.head | apply Pull.tail)) (.head _)); (case hl => exact EL_lens E rfl); (case h1 => exact EL_ones E); (case hb => omega); (case hn => rfl))
    intro ve
    ((with_reducible apply TriN.back); (case hp => exact ⟨_, rfl⟩); (case p => (repeat first | exact Pulls.nil | (apply Pulls.cons; repeat first | with_reducible exact Pull.head | apply Pull.tail))))
    (((with_reducible apply TriN.p 21); (case ho => rfl); (case hg => rfl); (case hB => kernel_rfl); (case hd => rfl); (case hn => rfl); (case h => (intro F K hK; (try dsimp only [List.cons_append, List.nil_append]); (with_reducible apply o_fieldAddr); rfl; rfl; exact hK))))
    ((with_reducible apply TriN.a2 10 14); (case hoi => rfl); (case hoj => rfl); (case hgi => rfl); (case hgj => rfl); (case hr => kernel_rfl); (all_goals (try dsimp only [List.cons_append, List.nil_append])))
    ((with_reducible apply o_append (m2 := K.length) (news := KL K)); (case hx => rfl); (case hy => rfl); (case p => (repeat first | with_reducible exact Pull.head | apply Pull.tail)); (case hr => exact rdw_exM (by (repeat first | with_reducible exact Pull.head | apply Pull.tail)) (.tail _ (.head _))); (case hl => exact KL_lens K rfl); (case h1 => exact KL_ones K); (case hb => omega); (case hn => rfl))
    intro y4
    ((with_reducible apply TriN.back); (case hp => exact ⟨_, rfl⟩); (case p => (repeat first | exact Pulls.nil | (apply Pulls.cons; repeat first | with_reducible exact Pull.head | apply Pull.tail))))
    ((with_reducible apply TriN.a2 13 14); (case hoi => rfl); (case hoj => rfl); (case hgi => rfl); (case hgj => rfl); (case hr => kernel_rfl); (all_goals (try dsimp only [List.cons_append, List.nil_append])))
    ((with_reducible apply o_append (m2 := K.length) (news := KL K)); (case hx => rfl); (case hy => rfl); (case p => (repeat first | with_reducible exact Pull.head | apply Pull.tail)); (case hr => exact rdw_exM (by (repeat first | with_reducible exact Pull.head | apply Pull.tail)) (.tail _ (.head _))); (case hl => exact KL_lens K rfl); (case h1 => exact KL_ones K); (case hb => omega); (case hn => rfl))
    intro vk
    ((with_reducible apply TriN.back); (case hp => exact ⟨_, rfl⟩); (case p => (repeat first | exact Pulls.nil | (apply Pulls.cons; repeat first | with_reducible exact Pull.head | apply Pull.tail))))
    ((with_reducible apply TriN.a 14); (case ho => rfl); (case hg => rfl); (case hr => kernel_rfl); (try dsimp only [List.cons_append, List.nil_append]))
    ((with_reducible apply o_litSl (ys := [])); (case hp => (repeat first | exact pev.nil | (apply pev.cons; case a => rfl))); (case hm => rfl); (case hf => rfl); (case hn => rfl); intro y5)
    ((with_reducible apply TriN.back); (case hp => exact ⟨_, rfl⟩); (case p => (repeat first | exact Pulls.nil | (apply Pulls.cons; repeat first | with_reducible exact Pull.head | apply Pull.tail))))
    ((with_reducible apply TriN.a 17); (case ho => rfl); (case hg => rfl); (case hr => kernel_rfl); (try dsimp only [List.cons_append, List.nil_append]))
    ((with_reducible apply o_append (m2 := D.length) (news := NL D)); (case hx => rfl); (case hy => rfl); (case p => (repeat first | with_reducible exact Pull.head | apply Pull.tail)); (case hr => exact rdw_exM (by (repeat first | with_reducible exact Pull.head | apply Pull.tail)) (.tail _ (.tail _ (.head _)))); (case hl => exact NL_lens D rfl); (case h1 => exact NL_one5 D); (case hb => omega); (case hn => rfl))
    intro y6
    ((with_reducible apply TriN.back); (case hp => exact ⟨_, rfl⟩); (case p => (repeat first | exact Pulls.nil | (apply Pulls.cons; repeat first | with_reducible exact Pull.head | apply Pull.tail))))
    ((with_reducible apply TriN.a 20); (case ho => rfl); (case hg => rfl); (case hr => kernel_rfl); (try dsimp only [List.cons_append, List.nil_append]))
    ((with_reducible apply o_append (m2 := D.length) (news := NL D)); (case hx => rfl); (case hy => rfl); (case p => (repeat first | with_reducible exact Pull.head | apply Pull.tail)); (case hr => exact rdw_exM (by (repeat first | with_reducible exact Pull.head | apply Pull.tail)) (.tail _ (.tail _ (.head _)))); (case hl => exact NL_lens D rfl); (case h1 => exact NL_one5 D); (case hb => omega); (case hn => rfl))
    intro vd
    (refine Tri.shape (e := 103) (size := 8) (v := ve) (by (repeat first | with_reducible exact Pull.head | apply Pull.tail)) ?_; rintro ⟨A2, a2, rfl⟩)
    (refine Tri.shape (e := 101) (size := 2) (v := vk) (by (repeat first | with_reducible exact Pull.head | apply Pull.tail)) ?_; rintro ⟨B2, b2, rfl⟩)
    (refine Tri.shape (e := 3) (size := 1) (v := vd) (by (repeat first | with_reducible exact Pull.head | apply Pull.tail)) ?_; rintro ⟨C2, c2, rfl⟩)
    ((with_reducible apply TriN.back); (case hp => exact ⟨_, rfl⟩); (case p => (repeat first | exact Pulls.nil | (apply Pulls.cons; repeat first | with_reducible exact Pull.head | apply Pull.tail))))
    rotate_left
    ((with_reducible apply o_litSl (ys := [])); (case hp => (repeat first | exact pev.nil | (apply pev.cons; case a => rfl))); (case hm => rfl); (case hf => rfl); (case hn => rfl); intro y5)
    ((with_reducible apply TriN.back); (case hp => exact ⟨_, rfl⟩); (case p => (repeat first | exact Pulls.nil | (apply Pulls.cons; repeat first | with_reducible exact Pull.head | apply Pull.tail))))
    ((with_reducible apply TriN.a 13); (case ho => rfl); (case hg => rfl); (case hr => kernel_rfl); (try dsimp only [List.cons_append, List.nil_append]))
    ((with_reducible apply o_append (m2 := K.length) (news := KL K)); (case hx => rfl); (case hy => rfl); (case p => (repeat first | with_reducible exact Pull.head | apply Pull.tail)); (case hr => exact rdw_exM (by (repeat first | with_reducible exact Pull.head | apply Pull.tail)) (.tail _ (.head _))); (case hl => exact KL_lens K rfl); (case h1 => exact KL_ones K); (case hb => omega); (case hn => rfl))
    intro vk
    ((with_reducible apply TriN.back); (case hp => exact ⟨_, rfl⟩); (case p => (repeat first | exact Pulls.nil | (apply Pulls.cons; repeat first | with_reducible exact Pull.head | apply Pull.tail))))
    ((with_reducible apply TriN.a 17); (case ho => rfl); (case hg => rfl); (case hr => kernel_rfl); (try dsimp only [List.cons_append, List.nil_append]))
    ((with_reducible apply o_append (m2 := D.length) (news := NL D)); (case hx => rfl); (case hy => rfl); (case p => (repeat first | with_reducible exact Pull.head | apply Pull.tail)); (case hr => exact rdw_exM (by (repeat first | with_reducible exact Pull.head | apply Pull.tail)) (.tail _ (.tail _ (.head _)))); (case hl => exact NL_lens D rfl); (case h1 => exact NL_one5 D); (case hb => omega); (case hn => rfl))
    intro y6
    ((with_reducible apply TriN.back); (case hp => exact ⟨_, rfl⟩); (case p => (repeat first | exact Pulls.nil | (apply Pulls.cons; repeat first | with_reducible exact Pull.head | apply Pull.tail))))
    ((with_reducible apply TriN.a 20); (case ho => rfl); (case hg => rfl); (case hr => kernel_rfl); (try dsimp only [List.cons_append, List.nil_append]))
    ((with_reducible apply o_append (m2 := D.length) (news := NL D)); (case hx => rfl); (case hy => rfl); (case p => (repeat first | with_reducible exact Pull.head | apply Pull.tail)); (case hr => exact rdw_exM (by (repeat first | with_reducible exact Pull.head | apply Pull.tail)) (.tail _ (.tail _ (.head _)))); (case hl => exact NL_lens D rfl); (case h1 => exact NL_one5 D); (case hb => omega); (case hn => rfl))
    intro vd
    (refine Tri.shape (e := 103) (size := 8) (v := ve) (by (repeat first | with_reducible exact Pull.head | apply Pull.tail)) ?_; rintro ⟨A2, a2, rfl⟩)
    (refine Tri.shape (e := 101) (size := 2) (v := vk) (by (repeat first | with_reducible exact Pull.head | apply Pull.tail)) ?_; rintro ⟨B2, b2, rfl⟩)
    (refine Tri.shape (e := 3) (size := 1) (v := vd) (by (repeat first | with_reducible exact Pull.head | apply Pull.tail)) ?_; rintro ⟨C2, c2, rfl⟩)
    ((with_reducible apply TriN.back); (case hp => exact ⟨_, rfl⟩); (case p => (repeat first | exact Pulls.nil | (apply Pulls.cons; repeat first | with_reducible exact Pull.head | apply Pull.tail))))
    rotate_left
    ((with_reducible apply o_litSl (ys := [])); (case hp => (repeat first | exact pev.nil | (apply pev.cons; case a => rfl))); (case hm => rfl); (case hf => rfl); (case hn => rfl); intro y5)
    ((with_reducible apply TriN.back); (case hp => exact ⟨_, rfl⟩); (case p => (repeat first | exact Pulls.nil | (apply Pulls.cons; repeat first | with_reducible exact Pull.head | apply Pull.tail))))
    ((with_reducible apply TriN.a 10); (case ho => rfl); (case hg => rfl); (case hr => kernel_rfl); (try dsimp only [List.cons_append, List.nil_append]))
    ((with_reducible apply o_append (m2 := K.length) (news := KL K)); (case hx => rfl); (case hy => rfl); (case p => (repeat first | with_reducible exact Pull.head | apply Pull.tail)); (case hr => exact rdw_exM (by (repeat first | with_reducible exact Pull.head | apply Pull.tail)) (.tail _ (.head _))); (case hl => exact KL_lens K rfl); (case h1 => exact KL_ones K); (case hb => omega); (case hn => rfl))
    intro y4
    ((with_reducible apply TriN.back); (case hp => exact ⟨_, rfl⟩); (case p => (repeat first | exact Pulls.nil | (apply Pulls.cons; repeat first | with_reducible exact Pull.head | apply Pull.tail))))
    ((with_reducible apply TriN.a 13); (case ho => rfl); (case hg => rfl); (case hr => kernel_rfl); (try dsimp only [List.cons_append, List.nil_append]))
    ((with_reducible apply o_append (m2 := K.length) (news := KL K)); (case hx => rfl); (case hy => rfl); (case p => (repeat first | with_reducible exact Pull.head | apply Pull.tail)); (case hr => exact rdw_exM (by (repeat first | with_reducible exact Pull.head | apply Pull.tail)) (.tail _ (.head _))); (case hl => exact KL_lens K rfl); (case h1 => exact KL_ones K); (case hb => omega); (case hn => rfl))
    intro vk
    ((with_reducible apply TriN.back); (case hp => exact ⟨_, rfl⟩); (case p => (repeat first | exact Pulls.nil | (apply Pulls.cons; repeat first | with_reducible exact Pull.head | apply Pull.tail))))
    ((with_reducible apply TriN.a 17); (case ho => rfl); (case hg => rfl); (case hr => kernel_rfl); (try dsimp only [List.cons_append, List.nil_append]))
    ((with_reducible apply o_append (m2 := D.length) (news := NL D)); (case hx => rfl); (case hy => rfl); (case p => (repeat first | with_reducible exact Pull.head | apply Pull.tail)); (case hr => exact rdw_exM (by (repeat first | with_reducible exact Pull.head | apply Pull.tail)) (.tail _ (.tail _ (.head _)))); (case hl => exact NL_lens D rfl); (case h1 => exact NL_one5 D); (case hb => omega); (case hn => rfl))
    intro y6
    ((with_reducible apply TriN.back); (case hp => exact ⟨_, rfl⟩); (case p => (repeat first | exact Pulls.nil | (apply Pulls.cons; repeat first | with_reducible exact Pull.head | apply Pull.tail))))
    ((with_reducible apply TriN.a 20); (case ho => rfl); (case hg => rfl); (case hr => kernel_rfl); (try dsimp only [List.cons_append, List.nil_append]))
    ((with_reducible apply o_append (m2 := D.length) (news := NL D)); (case hx => rfl); (case hy => rfl); (case p => (repeat first | with_reducible exact Pull.head | apply Pull.tail)); (case hr => exact rdw_exM (by (repeat first | with_reducible exact Pull.head | apply Pull.tail)) (.tail _ (.tail _ (.head _)))); (case hl => exact NL_lens D rfl); (case h1 => exact NL_one5 D); (case hb => omega); (case hn => rfl))
    intro vd
    (refine Tri.shape (e := 103) (size := 8) (v := ve) (by (repeat first | with_reducible exact Pull.head | apply Pull.tail)) ?_; rintro ⟨A2, a2, rfl⟩)
    (refine Tri.shape (e := 101) (size := 2) (v := vk) (by (repeat first | with_reducible exact Pull.head | apply Pull.tail)) ?_; rintro ⟨B2, b2, rfl⟩)
    (refine Tri.shape (e := 3) (size := 1) (v := vd) (by (repeat first | with_reducible exact Pull.head | apply Pull.tail)) ?_; rintro ⟨C2, c2, rfl⟩)
    ((with_reducible apply TriN.back); (case hp => exact ⟨_, rfl⟩); (case p => (repeat first | exact Pulls.nil | (apply Pulls.cons; repeat first | with_reducible exact Pull.head | apply Pull.tail))))
    rotate_left
    ((with_reducible apply o_litSl (ys := [])); (case hp => (repeat first | exact pev.nil | (apply pev.cons; case a => rfl))); (case hm => rfl); (case hf => rfl); (case hn => rfl); intro y5)
    ((with_reducible apply TriN.back); (case hp => exact ⟨_, rfl⟩); (case p => (repeat first | exact Pulls.nil | (apply Pulls.cons; repeat first | with_reducible exact Pull.head | apply Pull.tail))))
    ((with_reducible apply TriN.a 6); (case ho => rfl); (case hg => rfl); (case hr => kernel_rfl); (try dsimp only [List.cons_append, List.nil_append]))
    ((with_reducible apply o_append (m2 := E.length) (news := EL E)); (case hx => rfl); (case hy => rfl); (case p => (repeat first | with_reducible exact Pull.head | apply Pull.tail)); (case hr => exact rdw_exM (by (repeat first | with_reducible exact Pull.head | apply Pull.tail)) (.head _)); (case hl => exact EL_lens E rfl); (case h1 => exact EL_ones E); (case hb => omega); (case hn => rfl))
    intro ve
    ((with_reducible apply TriN.back); (case hp => exact ⟨_, rfl⟩); (case p => (repeat first | exact Pulls.nil | (apply Pulls.cons; repeat first | with_reducible exact Pull.head | apply Pull.tail))))
    (((with_reducible apply TriN.p 21); (case ho => rfl); (case hg => rfl); (case hB => kernel_rfl); (case hd => rfl); (case hn => rfl); (case h => (intro F K hK; (try dsimp only [List.cons_append, List.nil_append]); (with_reducible apply o_fieldAddr); rfl; rfl; exact hK))))
    ((with_reducible apply TriN.a 10); (case ho => rfl); (case hg => rfl); (case hr => kernel_rfl); (try dsimp only [List.cons_append, List.nil_append]))
    ((with_reducible apply o_append (m2 := K.length) (news := KL K)); (case hx => rfl); (case hy => rfl); (case p => (repeat first | with_reducible exact Pull.head | apply Pull.tail)); (case hr => exact rdw_exM (by (repeat first | with_reducible exact Pull.head | apply Pull.tail)) (.tail _ (.head _))); (case hl => exact KL_lens K rfl); (case h1 => exact KL_ones K); (case hb => omega); (case hn => rfl))
    intro y4
    ((with_reducible apply TriN.back); (case hp => exact ⟨_, rfl⟩); (case p => (repeat first | exact Pulls.nil | (apply Pulls.cons; repeat first | with_reducible exact Pull.head | apply Pull.tail))))
    ((with_reducible apply TriN.a 13); (case ho => rfl); (case hg => rfl); (case hr => kernel_rfl); (try dsimp only [List.cons_append, List.nil_append]))
    ((with_reducible apply o_append (m2 := K.length) (news := KL K)); (case hx => rfl); (case hy => rfl); (case p => (repeat first | with_reducible exact Pull.head | apply Pull.tail)); (case hr => exact rdw_exM (by (repeat first | with_reducible exact Pull.head | apply Pull.tail)) (.tail _ (.head _))); (case hl => exact KL_lens K rfl); (case h1 => exact KL_ones K); (case hb => omega); (case hn => rfl))
    intro vk
    ((with_reducible apply TriN.back); (case hp => exact ⟨_, rfl⟩); (case p => (repeat first | exact Pulls.nil | (apply Pulls.cons; repeat first | with_reducible exact Pull.head | apply Pull.tail))))
    ((with_reducible apply TriN.a 17); (case ho => rfl); (case hg => rfl); (case hr => kernel_rfl); (try dsimp only [List.cons_append, List.nil_append]))
    ((with_reducible apply o_append (m2 := D.length) (news := NL D)); (case hx => rfl); (case hy => rfl); (case p => (repeat first | with_reducible exact Pull.head | apply Pull.tail)); (case hr => exact rdw_exM (by (repeat first | with_reducible exact Pull.head | apply Pull.tail)) (.tail _ (.tail _ (.head _)))); (case hl => exact NL_lens D rfl); (case h1 => exact NL_one5 D); (case hb => omega); (case hn => rfl))
    intro y6
    ((with_reducible apply TriN.back); (case hp => exact ⟨_, rfl⟩); (case p => (repeat first | exact Pulls.nil | (apply Pulls.cons; repeat first | with_reducible exact Pull.head | apply Pull.tail))))
    ((with_reducible apply TriN.a 20); (case ho => rfl); (case hg => rfl); (case hr => kernel_rfl); (try dsimp only [List.cons_append, List.nil_append]))
    ((with_reducible apply o_append (m2 := D.length) (news := NL D)); (case hx => rfl); (case hy => rfl); (case p => (repeat first | with_reducible exact Pull.head | apply Pull.tail)); (case hr => exact rdw_exM (by (repeat first | with_reducible exact Pull.head | apply Pull.tail)) (.tail _ (.tail _ (.head _)))); (case hl => exact NL_lens D rfl); (case h1 => exact NL_one5 D); (case hb => omega); (case hn => rfl))
    intro vd
    (refine Tri.shape (e := 103) (size := 8) (v := ve) (by (repeat first | with_reducible exact Pull.head | apply Pull.tail)) ?_; rintro ⟨A2, a2, rfl⟩)
    (refine Tri.shape (e := 101) (size := 2) (v := vk) (by (repeat first | with_reducible exact Pull.head | apply Pull.tail)) ?_; rintro ⟨B2, b2, rfl⟩)
    (refine Tri.shape (e := 3) (size := 1) (v := vd) (by (repeat first | with_reducible exact Pull.head | apply Pull.tail)) ?_; rintro ⟨C2, c2, rfl⟩)
    ((with_reducible apply TriN.back); (case hp => exact ⟨_, rfl⟩); (case p => (repeat first | exact Pulls.nil | (apply Pulls.cons; repeat first | with_reducible exact Pull.head | apply Pull.tail))))
    rotate_left
    ((with_reducible apply o_litSl (ys := [])); (case hp => (repeat first | exact pev.nil | (apply pev.cons; case a => rfl))); (case hm => rfl); (case hf => rfl); (case hn => rfl); intro y5)
    ((with_reducible apply TriN.back); (case hp => exact ⟨_, rfl⟩); (case p => (repeat first | exact Pulls.nil | (apply Pulls.cons; repeat first | with_reducible exact Pull.head | apply Pull.tail))))
    ((with_reducible apply TriN.a 3); (case ho => rfl); (case hg => rfl); (case hr => kernel_rfl); (try dsimp only [List.cons_append, List.nil_append]))
    ((with_reducible apply o_append (m2 := E.length) (news := EL E)); (case hx => rfl); (case hy => rfl); (case p => (repeat first | with_reducible exact Pull.head | apply Pull.tail)); (case hr => exact rdw_exM (by (repeat first | with_reducible exact Pull.head | apply Pull.tail)) (.head _)); (case hl => exact EL_lens E rfl); (case h1 => exact EL_ones E); (case hb => omega); (case hn => rfl))
    intro y2
    ((with_reducible apply TriN.back); (case hp => exact ⟨_, rfl⟩); (case p => (repeat first | exact Pulls.nil | (apply Pulls.cons; repeat first | with_reducible exact Pull.head | apply Pull.tail))))
    ((with_reducible apply TriN.a 6); (case ho => rfl); (case hg => rfl); (case hr => kernel_rfl); (try dsimp only [List.cons_append, List.nil_append]))
    ((with_reducible apply o_append (m2 := E.length) (news := EL E)); (case hx => rfl); (case hy => rfl); (case p => (repeat first | with_reducible exact Pull.head | apply Pull.tail)); (case hr => exact rdw_exM (by (repeat first | with_reducible exact Pull.head | apply Pull.tail)) (.head _)); (case hl => exact EL_lens E rfl); (case h1 => exact EL_ones E); (case hb => omega); (case hn => rfl))
    intro ve
    ((with_reducible apply TriN.back); (case hp => exact ⟨_, rfl⟩); (case p => (repeat first | exact Pulls.nil | (apply Pulls.cons; repeat first | with_reducible exact Pull.head | apply Pull.tail))))
    (((with_reducible apply TriN.p 21); (case ho => rfl); (case hg => rfl); (case hB => kernel_rfl); (case hd => rfl); (case hn => rfl); (case h => (intro F K hK; (try dsimp only [List.cons_append, List.nil_append]); (with_reducible apply o_fieldAddr); rfl; rfl; exact hK))))
    ((with_reducible apply TriN.a 10); (case ho => rfl); (case hg => rfl); (case hr => kernel_rfl); (try dsimp only [List.cons_append, List.nil_append]))
    ((with_reducible apply o_append (m2 := K.length) (news := KL K)); (case hx => rfl); (case hy => rfl); (case p => (repeat first | with_reducible exact Pull.head | apply Pull.tail)); (case hr => exact rdw_exM (by (repeat first | with_reducible exact Pull.head | apply Pull.tail)) (.tail _ (.head _))); (case hl => exact KL_lens K rfl); (case h1 => exact KL_ones K); (case hb => omega); (case hn => rfl))
    intro y4
    ((with_reducible apply TriN.back); (case hp => exact ⟨_, rfl⟩); (case p => (repeat first | exact Pulls.nil | (apply Pulls.cons; repeat first | with_reducible exact Pull.head | apply Pull.tail))))
    ((with_reducible apply TriN.a 13); (case ho => rfl); (case hg => rfl); (case hr => kernel_rfl); (try dsimp only [List.cons_append, List.nil_append]))
    ((with_reducible apply o_append (m2 := K.length) (news := KL K)); (case hx => rfl); (case hy => rfl); (case p => (repeat first | with_reducible exact Pull.head | apply Pull.tail)); (case hr => exact rdw_exM (by (repeat first | with_reducible exact Pull.head | apply Pull.tail)) (.tail _ (.head _))); (case hl => exact KL_lens K rfl); (case h1 => exact KL_ones K); (case hb => omega); (case hn => rfl))
    intro vk
    ((with_reducible apply TriN.back); (case hp => exact ⟨_, rfl⟩); (case p => (repeat first | exact Pulls.nil | (apply Pulls.cons; repeat first | with_reducible exact Pull.head | apply Pull.tail))))
    ((with_reducible apply TriN.a 17); (case ho => rfl); (case hg => rfl); (case hr => kernel_rfl); (try dsimp only [List.cons_append, List.nil_append]))
    ((with_reducible apply o_append (m2 := D.length) (news := NL D)); (case hx => rfl); (case hy => rfl); (case p => (repeat first | with_reducible exact Pull.head | apply Pull.tail)); (case hr => exact rdw_exM (by (repeat first | with_reducible exact Pull.head | apply Pull.tail)) (.tail _ (.tail _ (.head _)))); (case hl => exact NL_lens D rfl); (case h1 => exact NL_one5 D); (case hb => omega); (case hn => rfl))
    intro y6
    ((with_reducible apply TriN.back); (case hp => exact ⟨_, rfl⟩); (case p => (repeat first | exact Pulls.nil | (apply Pulls.cons; repeat first | with_reducible exact Pull.head | apply Pull.tail))))
    ((with_reducible apply TriN.a 20); (case ho => rfl); (case hg => rfl); (case hr => kernel_rfl); (try dsimp only [List.cons_append, List.nil_append]))
    ((with_reducible apply o_append (m2 := D.length) (news := NL D)); (case hx => rfl); (case hy => rfl); (case p => (repeat first | with_reducible exact Pull.head | apply Pull.tail)); (case hr => exact rdw_exM (by (repeat first | with_reducible exact Pull.head | apply Pull.tail)) (.tail _ (.tail _ (.head _)))); (case hl => exact NL_lens D rfl); (case h1 => exact NL_one5 D); (case hb => omega); (case hn => rfl))
    intro vd
    (refine Tri.shape (e := 103) (size := 8) (v := ve) (by (repeat first | with_reducible exact Pull.head | apply Pull.tail)) ?_; rintro ⟨A2, a2, rfl⟩)
    (refine Tri.shape (e := 101) (size := 2) (v := vk) (by (repeat first | with_reducible exact Pull.head | apply Pull.tail)) ?_; rintro ⟨B2, b2, rfl⟩)
    (refine Tri.shape (e := 3) (size := 1) (v := vd) (by (repeat first | with_reducible exact Pull.head | apply Pull.tail)) ?_; rintro ⟨C2, c2, rfl⟩)
    ((with_reducible apply TriN.back); (case hp => exact ⟨_, rfl⟩); (case p => (repeat first | exact Pulls.nil | (apply Pulls.cons; repeat first | with_reducible exact Pull.head | apply Pull.tail))))
    rotate_left
    ((with_reducible apply o_litSl (ys := [])); (case hp => (repeat first | exact pev.nil | (apply pev.cons; case a => rfl))); (case hm => rfl); (case hf => rfl); (case hn => rfl); intro y5)
    ((with_reducible apply TriN.back); (case hp => exact ⟨_, rfl⟩); (case p => (repeat first | exact Pulls.nil | (apply Pulls.cons; repeat first | with_reducible exact Pull.head | apply Pull.tail))))
    ((with_reducible apply TriN.a2 3 7); (case hoi => rfl); (case hoj => rfl); (case hgi => rfl); (case hgj => rfl); (case hr => kernel_rfl); (all_goals (try dsimp only [List.cons_append, List.nil_append])))
    ((with_reducible apply o_append (m2 := E.length) (news := EL E)); (case hx => rfl); (case hy => rfl); (case p => (repeat first | with_reducible exact Pull.head | apply Pull.tail)); (case hr => exact rdw_exM (by (repeat first | with_reducible exact Pull.head | apply Pull.tail)) (.head _)); (case hl => exact EL_lens E rfl); (case h1 => exact EL_ones E); (case hb => omega); (case hn => rfl))
    intro y2
    ((with_reducible apply TriN.back); (case hp => exact ⟨_, rfl⟩); (case p => (repeat first | exact Pulls.nil | (apply Pulls.cons; repeat first | with_reducible exact Pull.head | apply Pull.tail))))
    ((with_reducible apply TriN.a2 6 7); (case hoi => rfl); (case hoj => rfl); (case hgi => rfl); (case hgj => rfl); (case hr => kernel_rfl); (all_goals (try dsimp only [List.cons_append, List.nil_append])))
    ((with_reducible apply o_append (m2 := E.length) (news := EL E)); (case hx => rfl); (case hy => rfl); (case p => (repeat first | with_reducible exact Pull.head | apply Pull.tail)); (case hr => exact rdw_exM (by (repeat first | with_reducible exact Pull.head | apply Pull.tail)) (.head _)); (case hl => exact EL_lens E rfl); (case h1 => exact EL_ones E); (case hb => omega); (case hn => rfl))
    intro ve
    ((with_reducible apply TriN.back); (case hp => exact ⟨_, rfl⟩); (case p => (repeat first | exact Pulls.nil | (apply Pulls.cons; repeat first | with_reducible exact Pull.head | apply Pull.tail))))
    (((with_reducible apply TriN.p 21); (case ho => rfl); (case hg => rfl); (case hB => kernel_rfl); (case hd => rfl); (case hn => rfl); (case h => (intro F K hK; (try dsimp only [List.cons_append, List.nil_append]); (with_reducible apply o_fieldAddr); rfl; rfl; exact hK))))
    ((with_reducible apply TriN.a 7); (case ho => rfl); (case hg => rfl); (case hr => kernel_rfl); (try dsimp only [List.cons_append, List.nil_append]))
    ((with_reducible apply o_litSl (ys := [])); (case hp => (repeat first | exact pev.nil | (apply pev.cons; case a => rfl))); (case hm => rfl); (case hf => rfl); (case hn => rfl); intro y3)
    ((with_reducible apply TriN.back); (case hp => exact ⟨_, rfl⟩); (case p => (repeat first | exact Pulls.nil | (apply Pulls.cons; repeat first | with_reducible exact Pull.head | apply Pull.tail))))
    ((with_reducible apply TriN.a 10); (case ho => rfl); (case hg => rfl); (case hr => kernel_rfl); (try dsimp only [List.cons_append, List.nil_append]))
    ((with_reducible apply o_append (m2 := K.length) (news := KL K)); (case hx => rfl); (case hy => rfl); (case p => (repeat first | with_reducible exact Pull.head | apply Pull.tail)); (case hr => exact rdw_exM (by (repeat first | with_reducible exact Pull.head | apply Pull.tail)) (.tail _ (.head _))); (case hl => exact KL_lens K rfl); (case h1 => exact KL_ones K); (case hb => omega); (case hn => rfl))
    intro y4
    ((with_reducible apply TriN.back); (case hp => exact ⟨_, rfl⟩); (case p => (repeat first | exact Pulls.nil | (apply Pulls.cons; repeat first | with_reducible exact Pull.head | apply Pull.tail))))
    ((with_reducible apply TriN.a 13); (case ho => rfl); (case hg => rfl); (case hr => kernel_rfl); (try dsimp only [List.cons_append, List.nil_append]))
    ((with_reducible apply o_append (m2 := K.length) (news := KL K)); (case hx => rfl); (case hy => rfl); (case p => (repeat first | with_reducible exact Pull.head | apply Pull.tail)); (case hr => exact rdw_exM (by (repeat first | with_reducible exact Pull.head | apply Pull.tail)) (.tail _ (.head _))); (case hl => exact KL_lens K rfl); (case h1 => exact KL_ones K); (case hb => omega); (case hn => rfl))
    intro vk
    ((with_reducible apply TriN.back); (case hp => exact ⟨_, rfl⟩); (case p => (repeat first | exact Pulls.nil | (apply Pulls.cons; repeat first | with_reducible exact Pull.head | apply Pull.tail))))
    ((with_reducible apply TriN.a 17); (case ho => rfl); (case hg => rfl); (case hr => kernel_rfl); (try dsimp only [List.cons_append, List.nil_append]))
    ((with_reducible apply o_append (m2 := D.length) (news := NL D)); (case hx => rfl); (case hy => rfl); (case p => (repeat first | with_reducible exact Pull.head | apply Pull.tail)); (case hr => exact rdw_exM (by (repeat first | with_reducible exact Pull.head | apply Pull.tail)) (.tail _ (.tail _ (.head _)))); (case hl => exact NL_lens D rfl); (case h1 => exact NL_one5 D); (case hb => omega); (case hn => rfl))
    intro y6
    ((with_reducible apply TriN.back); (case hp => exact ⟨_, rfl⟩); (case p => (repeat first | exact Pulls.nil | (apply Pulls.cons; repeat first | with_reducible exact Pull.head | apply Pull.tail))))
    ((with_reducible apply TriN.a 20); (case ho => rfl); (case hg => rfl); (case hr => kernel_rfl); (try dsimp only [List.cons_append, List.nil_append]))
    ((with_reducible apply o_append (m2 := D.length) (news := NL D)); (case hx => rfl); (case hy => rfl); (case p => (repeat first | with_reducible exact Pull.head | apply Pull.tail)); (case hr => exact rdw_exM (by (repeat first | with_reducible exact Pull.head | apply Pull.tail)) (.tail _ (.tail _ (.head _)))); (case hl => exact NL_lens D rfl); (case h1 => exact NL_one5 D); (case hb => omega); (case hn => rfl))
    intro vd
    (refine Tri.shape (e := 103) (size := 8) (v := ve) (by (repeat first | with_reducible exact Pull.head | apply Pull.tail)) ?_; rintro ⟨A2, a2, rfl⟩)
    (refine Tri.shape (e := 101) (size := 2) (v := vk) (by (repeat first | with_reducible exact Pull.head | apply Pull.tail)) ?_; rintro ⟨B2, b2, rfl⟩)
    (refine Tri.shape (e := 3) (size := 1) (v := vd) (by (repeat first | with_reducible exact Pull.head | apply Pull.tail)) ?_; rintro ⟨C2, c2, rfl⟩)
    ((with_reducible apply TriN.back); (case hp => exact ⟨_, rfl⟩); (case p => (repeat first | exact Pulls.nil | (apply Pulls.cons; repeat first | with_reducible exact Pull.head | apply Pull.tail))))
    rotate_left
    ((with_reducible apply o_litSl (ys := [])); (case hp => (repeat first | exact pev.nil | (apply pev.cons; case a => rfl))); (case hm => rfl); (case hf => rfl); (case hn => rfl); intro y3)
    ((with_reducible apply TriN.back); (case hp => exact ⟨_, rfl⟩); (case p => (repeat first | exact Pulls.nil | (apply Pulls.cons; repeat first | with_reducible exact Pull.head | apply Pull.tail))))
    ((with_reducible apply TriN.a 6); (case ho => rfl); (case hg => rfl); (case hr => kernel_rfl); (try dsimp only [List.cons_append, List.nil_append]))
    ((with_reducible apply o_append (m2 := E.length) (news := EL E)); (case hx => rfl); (case hy => rfl); (case p => (repeat first | with_reducible exact Pull.head | apply Pull.tail)); (case hr => exact rdw_exM (by (repeat first | with_reducible exact Pull.head | apply Pull.tail)) (.head _)); (case hl => exact EL_lens E rfl); (case h1 => exact EL_ones E); (case hb => omega); (case hn => rfl))
    intro ve
    ((with_reducible apply TriN.back); (case hp => exact ⟨_, rfl⟩); (case p => (repeat first | exact Pulls.nil | (apply Pulls.cons; repeat first | with_reducible exact Pull.head | apply Pull.tail))))
    (((with_reducible apply TriN.p 21); (case ho => rfl); (case hg => rfl); (case hB => kernel_rfl); (case hd => rfl); (case hn => rfl); (case h => (intro F K hK; (try dsimp only [List.cons_append, List.nil_append]); (with_reducible apply o_fieldAddr); rfl; rfl; exact hK))))
    ((with_reducible apply TriN.a 10); (case ho => rfl); (case hg => rfl); (case hr => kernel_rfl); (try dsimp only [List.cons_append, List.nil_append]))
    ((with_reducible apply o_append (m2 := K.length) (news := KL K)); (case hx => rfl); (case hy => rfl); (case p => (repeat first | with_reducible exact Pull.head | apply Pull.tail)); (case hr => exact rdw_exM (by (repeat first | with_reducible exact Pull.head | apply Pull.tail)) (.tail _ (.head _))); (case hl => exact KL_lens K rfl); (case h1 => exact KL_ones K); (case hb => omega); (case hn => rfl))
    intro y4
    ((with_reducible apply TriN.back); (case hp => exact ⟨_, rfl⟩); (case p => (repeat first | exact Pulls.nil | (apply Pulls.cons; repeat first | with_reducible exact Pull.head | apply Pull.tail))))
    ((with_reducible apply TriN.a 13); (case ho => rfl); (case hg => rfl); (case hr => kernel_rfl); (try dsimp only [List.cons_append, List.nil_append]))
    ((with_reducible apply o_append (m2 := K.length) (news := KL K)); (case hx => rfl); (case hy => rfl); (case p => (repeat first | with_reducible exact Pull.head | apply Pull.tail)); (case hr => exact rdw_exM (by (repeat first | with_reducible exact Pull.head | apply Pull.tail)) (.tail _ (.head _))); (case hl => exact KL_lens K rfl); (case h1 => exact KL_ones K); (case hb => omega); (case hn => rfl))
    intro vk
    ((with_reducible apply TriN.back); (case hp => exact ⟨_, rfl⟩); (case p => (repeat first | exact Pulls.nil | (apply Pulls.cons; repeat first | with_reducible exact Pull.head | apply Pull.tail))))
    ((with_reducible apply TriN.a 17); (case ho => rfl); (case hg => rfl); (case hr => kernel_rfl); (try dsimp only [List.cons_append, List.nil_append]))
    ((with_reducible apply o_append (m2 := D.length) (news := NL D)); (case hx => rfl); (case hy => rfl); (case p => (repeat first | with_reducible exact Pull.head | apply Pull.tail)); (case hr => exact rdw_exM (by (repeat first | with_reducible exact Pull.head | apply Pull.tail)) (.tail _ (.tail _ (.head _)))); (case hl => exact NL_lens D rfl); (case h1 => exact NL_one5 D); (case hb => omega); (case hn => rfl))
    intro y6
    ((with_reducible apply TriN.back); (case hp => exact ⟨_, rfl⟩); (case p => (repeat first | exact Pulls.nil | (apply Pulls.cons; repeat first | with_reducible exact Pull.head | apply Pull.tail))))
    ((with_reducible apply TriN.a 20); (case ho => rfl); (case hg => rfl); (case hr => kernel_rfl); (try dsimp only [List.cons_append, List.nil_append]))
    ((with_reducible apply o_append (m2 := D.length) (news := NL D)); (case hx => rfl); (case hy => rfl); (case p => (repeat first | with_reducible exact Pull.head | apply Pull.tail)); (case hr => exact rdw_exM (by (repeat first | with_reducible exact Pull.head | apply Pull.tail)) (.tail _ (.tail _ (.head _)))); (case hl => exact NL_lens D rfl); (case h1 => exact NL_one5 D); (case hb => omega); (case hn => rfl))
    intro vd
    (refine Tri.shape (e := 103) (size := 8) (v := ve) (by (repeat first | with_reducible exact Pull.head | apply Pull.tail)) ?_; rintro ⟨A2, a2, rfl⟩)
    (refine Tri.shape (e := 101) (size := 2) (v := vk) (by (repeat first | with_reducible exact Pull.head | apply Pull.tail)) ?_; rintro ⟨B2, b2, rfl⟩)
    (refine Tri.shape (e := 3) (size := 1) (v := vd) (by (repeat first | with_reducible exact Pull.head | apply Pull.tail)) ?_; rintro ⟨C2, c2, rfl⟩)
    ((with_reducible apply TriN.back); (case hp => exact ⟨_, rfl⟩); (case p => (repeat first | exact Pulls.nil | (apply Pulls.cons; repeat first | with_reducible exact Pull.head | apply Pull.tail))))
    rotate_left
    ((with_reducible apply o_litSl (ys := [])); (case hp => (repeat first | exact pev.nil | (apply pev.cons; case a => rfl))); (case hm => rfl); (case hf => rfl); (case hn => rfl); intro y3)
    ((with_reducible apply TriN.back); (case hp => exact ⟨_, rfl⟩); (case p => (repeat first | exact Pulls.nil | (apply Pulls.cons; repeat first | with_reducible exact Pull.head | apply Pull.tail))))
    ((with_reducible apply TriN.a 3); (case ho => rfl); (case hg => rfl); (case hr => kernel_rfl); (try dsimp only [List.cons_append, List.nil_append]))
    ((with_reducible apply o_append (m2 := E.length) (news := EL E)); (case hx => rfl); (case hy => rfl); (case p => (repeat first | with_reducible exact Pull.head | apply Pull.tail)); (case hr => exact rdw_exM (by (repeat first | with_reducible exact Pull.head | apply Pull.tail)) (.head _)); (case hl => exact EL_lens E rfl); (case h1 => exact EL_ones E); (case hb => omega); (case hn => rfl))
    intro y2
    ((with_reducible apply TriN.back); (case hp => exact ⟨_, rfl⟩); (case p => (repeat first | exact Pulls.nil | (apply Pulls.cons; repeat first | with_reducible exact Pull.head | apply Pull.tail))))
    ((with_reducible apply TriN.a 6); (case ho => rfl); (case hg => rfl); (case hr => kernel_rfl); (try dsimp only [List.cons_append, List.nil_append]))
    ((with_reducible apply o_append (m2 := E.length) (news := EL E)); (case hx => rfl); (case hy => rfl); (case p => (repeat first | with_reducible exact Pull.head | apply Pull.tail)); (case hr => exact rdw_exM (by (repeat first | with_reducible exact Pull.head | apply Pull.tail)) (.head _)); (case hl => exact EL_lens E rfl); (case h1 => exact EL_ones E); (case hb => omega); (case hn => rfl))
    intro ve
    ((with_reducible apply TriN.back); (case hp => exact ⟨_, rfl⟩); (case p => (repeat first | exact Pulls.nil | (apply Pulls.cons; repeat first | with_reducible exact Pull.head | apply Pull.tail))))
    (((with_reducible apply TriN.p 21); (case ho => rfl); (case hg => rfl); (case hB => kernel_rfl); (case hd => rfl); (case hn => rfl); (case h => (intro F K hK; (try dsimp only [List.cons_append, List.nil_append]); (with_reducible apply o_fieldAddr); rfl; rfl; exact hK))))
    ((with_reducible apply TriN.a 10); (case ho => rfl); (case hg => rfl); (case hr => kernel_rfl); (try dsimp only [List.cons_append, List.nil_append]))
    ((with_reducible apply o_append (m2 := K.length) (news := KL K)); (case hx => rfl); (case hy => rfl); (case p => (repeat first | with_reducible exact Pull.head | apply Pull.tail)); (case hr => exact rdw_exM (by (repeat first | with_reducible exact Pull.head | apply Pull.tail)) (.tail _ (.head _))); (case hl => exact KL_lens K rfl); (case h1 => exact KL_ones K); (case hb => omega); (case hn => rfl))
    intro y4
    ((with_reducible apply TriN.back); (case hp => exact ⟨_, rfl⟩); (case p => (repeat first | exact Pulls.nil | (apply Pulls.cons; repeat first | with_reducible exact Pull.head | apply Pull.tail))))
    ((with_reducible apply TriN.a 13); (case ho => rfl); (case hg => rfl); (case hr => kernel_rfl); (try dsimp only [List.cons_append, List.nil_append]))
    ((with_reducible apply o_append (m2 := K.length) (news := KL K)); (case hx => rfl); (case hy => rfl); (case p => (repeat first | with_reducible exact Pull.head | apply Pull.tail)); (case hr => exact rdw_exM (by (repeat first | with_reducible exact Pull.head | apply Pull.tail)) (.tail _ (.head _))); (case hl => exact KL_lens K rfl); (case h1 => exact KL_ones K); (case hb => omega); (case hn => rfl))
    intro vk
    ((with_reducible apply TriN.back); (case hp => exact ⟨_, rfl⟩); (case p => (repeat first | exact Pulls.nil | (apply Pulls.cons; repeat first | with_reducible exact Pull.head | apply Pull.tail))))
    ((with_reducible apply TriN.a 17); (case ho => rfl); (case hg => rfl); (case hr => kernel_rfl); (try dsimp only [List.cons_append, List.nil_append]))
    ((with_reducible apply o_append (m2 := D.length) (news := NL D)); (case hx => rfl); (case hy => rfl); (case p => (repeat first | with_reducible exact Pull.head | apply Pull.tail)); (case hr => exact rdw_exM (by (repeat first | with_reducible exact Pull.head | apply Pull.tail)) (.tail _ (.tail _ (.head _)))); (case hl => exact NL_lens D rfl); (case h1 => exact NL_one5 D); (case hb => omega); (case hn => rfl))
    intro y6
    ((with_reducible apply TriN.back); (case hp => exact ⟨_, rfl⟩); (case p => (repeat first | exact Pulls.nil | (apply Pulls.cons; repeat first | with_reducible exact Pull.head | apply Pull.tail))))
    ((with_reducible apply TriN.a 20); (case ho => rfl); (case hg => rfl); (case hr => kernel_rfl); (try dsimp only [List.cons_append, List.nil_append]))
    ((with_reducible apply o_append (m2 := D.length) (news := NL D)); (case hx => rfl); (case hy => rfl); (case p => (repeat first | with_reducible exact Pull.head | apply Pull.tail)); (case hr => exact rdw_exM (by (repeat first | with_reducible exact Pull.head | apply Pull.tail)) (.tail _ (.tail _ (.head _)))); (case hl => exact NL_lens D rfl); (case h1 => exact NL_one5 D); (case hb => omega); (case hn => rfl))
    intro vd
    (refine Tri.shape (e := 103) (size := 8) (v := ve) (by (repeat first | with_reducible exact Pull.head | apply Pull.tail)) ?_; rintro ⟨A2, a2, rfl⟩)
    (refine Tri.shape (e := 101) (size := 2) (v := vk) (by (repeat first | with_reducible exact Pull.head | apply Pull.tail)) ?_; rintro ⟨B2, b2, rfl⟩)
    (refine Tri.shape (e := 3) (size := 1) (v := vd) (by (repeat first | with_reducible exact Pull.head | apply Pull.tail)) ?_; rintro ⟨C2, c2, rfl⟩)
    ((with_reducible apply TriN.back); (case hp => exact ⟨_, rfl⟩); (case p => (repeat first | exact Pulls.nil | (apply Pulls.cons; repeat first | with_reducible exact Pull.head | apply Pull.tail))))
    rotate_left
    ((with_reducible apply o_litSl (ys := [])); (case hp => (repeat first | exact pev.nil | (apply pev.cons; case a => rfl))); (case hm => rfl); (case hf => rfl); (case hn => rfl); intro y3)
    ((with_reducible apply TriN.back); (case hp => exact ⟨_, rfl⟩); (case p => (repeat first | exact Pulls.nil | (apply Pulls.cons; repeat first | with_reducible exact Pull.head | apply Pull.tail))))
    ((with_reducible apply TriN.a2 0 14); (case hoi => rfl); (case hoj => rfl); (case hgi => rfl); (case hgj => rfl); (case hr => kernel_rfl); (all_goals (try dsimp only [List.cons_append, List.nil_append])))
    ((with_reducible apply o_litSl (ys := [])); (case hp => (repeat first | exact pev.nil | (apply pev.cons; case a => rfl))); (case hm => rfl); (case hf => rfl); (case hn => rfl); intro y1)
    ((with_reducible apply TriN.back); (case hp => exact ⟨_, rfl⟩); (case p => (repeat first | exact Pulls.nil | (apply Pulls.cons; repeat first | with_reducible exact Pull.head | apply Pull.tail))))
    ((with_reducible apply TriN.a2 3 14); (case hoi => rfl); (case hoj => rfl); (case hgi => rfl); (case hgj => rfl); (case hr => kernel_rfl); (all_goals (try dsimp only [List.cons_append, List.nil_append])))
    ((with_reducible apply o_append (m2 := E.length) (news := EL E)); (case hx => rfl); (case hy => rfl); (case p => (repeat first | with_reducible exact Pull.head | apply Pull.tail)); (case hr => exact rdw_exM (by (repeat first | with_reducible exact Pull.head | apply Pull.tail)) (.head _)); (case hl => exact EL_lens E rfl); (case h1 => exact EL_ones E); (case hb => omega); (case hn => rfl))
    intro y2
    ((with_reducible apply TriN.back); (case hp => exact ⟨_, rfl⟩); (case p => (repeat first | exact Pulls.nil | (apply Pulls.cons; repeat first | with_reducible exact Pull.head | apply Pull.tail))))
    ((with_reducible apply TriN.a2 6 14); (case hoi => rfl); (case hoj => rfl); (case hgi => rfl); (case hgj => rfl); (case hr => kernel_rfl); (all_goals (try dsimp only [List.cons_append, List.nil_append])))
    ((with_reducible apply o_append (m2 := E.length) (news := EL E)); (case hx => rfl); (case hy => rfl); (case p => (repeat first | with_reducible exact Pull.head | apply Pull.tail)); (case hr => exact rdw_exM (by (repeat first | with_reducible exact Pull.head | apply Pull.tail)) (.head _)); (case hl => exact EL_lens E rfl); (case h1 => exact EL_ones E); (case hb => omega); (case hn => rfl))
    intro ve
    ((with_reducible apply TriN.back); (case hp => exact ⟨_, rfl⟩); (case p => (repeat first | exact Pulls.nil | (apply Pulls.cons; repeat first | with_reducible exact Pull.head | apply Pull.tail))))
    (((with_reducible apply TriN.p 21); (case ho => rfl); (case hg => rfl); (case hB => kernel_rfl); (case hd => rfl); (case hn => rfl); (case h => (intro F K hK; (try dsimp only [List.cons_append, List.nil_append]); (with_reducible apply o_fieldAddr); rfl; rfl; exact hK))))
    ((with_reducible apply TriN.a2 10 14); (case hoi => rfl); (case hoj => rfl); (case hgi => rfl); (case hgj => rfl); (case hr => kernel_rfl); (all_goals (try dsimp only [List.cons_append, List.nil_append])))
    ((with_reducible apply o_append (m2 := K.length) (news := KL K)); (case hx => rfl); (case hy => rfl); (case p => (repeat first | with_reducible exact Pull.head | apply Pull.tail)); (case hr => exact rdw_exM (by (repeat first | with_reducible exact Pull.head | apply Pull.tail)) (.tail _ (.head _))); (case hl => exact KL_lens K rfl); (case h1 => exact KL_ones K); (case hb => omega); (case hn => rfl))
    intro y4
    ((with_reducible apply TriN.back); (case hp => exact ⟨_, rfl⟩); (case p => (repeat first | exact Pulls.nil | (apply Pulls.cons; repeat first | with_reducible exact Pull.head | apply Pull.tail))))
    ((with_reducible apply TriN.a2 13 14); (case hoi => rfl); (case hoj => rfl); (case hgi => rfl); (case hgj => rfl); (case hr => kernel_rfl); (all_goals (try dsimp only [List.cons_append, List.nil_append])))
    ((with_reducible apply o_append (m2 := K.length) (news := KL K)); (case hx => rfl); (case hy => rfl); (case p => (repeat first | with_reducible exact Pull.head | apply Pull.tail)); (case hr => exact rdw_exM (by (repeat first | with_reducible exact Pull.head | apply Pull.tail)) (.tail _ (.head _))); (case hl => exact KL_lens K rfl); (case h1 => exact KL_ones K); (case hb => omega); (case hn => rfl))
    intro vk
    ((with_reducible apply TriN.back); (case hp => exact ⟨_, rfl⟩); (case p => (repeat first | exact Pulls.nil | (apply Pulls.cons; repeat first | with_reducible exact Pull.head | apply Pull.tail))))
    ((with_reducible apply TriN.a 14); (case ho => rfl); (case hg => rfl); (case hr => kernel_rfl); (try dsimp only [List.cons_append, List.nil_append]))
    ((with_reducible apply o_litSl (ys := [])); (case hp => (repeat first | exact pev.nil | (apply pev.cons; case a => rfl))); (case hm => rfl); (case hf => rfl); (case hn => rfl); intro y5)
    ((with_reducible apply TriN.back); (case hp => exact ⟨_, rfl⟩); (case p => (repeat first | exact Pulls.nil | (apply Pulls.cons; repeat first | with_reducible exact Pull.head | apply Pull.tail))))
    ((with_reducible apply TriN.a 17); (case ho => rfl); (case hg => rfl); (case hr => kernel_rfl); (try dsimp only [List.cons_append, List.nil_append]))
    ((with_reducible apply o_append (m2 := D.length) (news := NL D)); (case hx => rfl); (case hy => rfl); (case p => (repeat first | with_reducible exact Pull.head | apply Pull.tail)); (case hr => exact rdw_exM (by (repeat first | with_reducible exact Pull.head | apply Pull.tail)) (.tail _ (.tail _ (.head _)))); (case hl => exact NL_lens D rfl); (case h1 => exact NL_one5 D); (case hb => omega); (case hn => rfl))
    intro y6
    ((with_reducible apply TriN.back); (case hp => exact ⟨_, rfl⟩); (case p => (repeat first | exact Pulls.nil | (apply Pulls.cons; repeat first | with_reducible exact Pull.head | apply Pull.tail))))
    ((with_reducible apply TriN.a 20); (case ho => rfl); (case hg => rfl); (case hr => kernel_rfl); (try dsimp only [List.cons_append, List.nil_append]))
    ((with_reducible apply o_append (m2 := D.length) (news := NL D)); (case hx => rfl); (case hy => rfl); (case p => (repeat first | with_reducible exact Pull.head | apply Pull.tail)); (case hr => exact rdw_exM (by (repeat first | with_reducible exact Pull.head | apply Pull.tail)) (.tail _ (.tail _ (.head _)))); (case hl => exact NL_lens D rfl); (case h1 => exact NL_one5 D); (case hb => omega); (case hn => rfl))
    intro vd
    (refine Tri.shape (e := 103) (size := 8) (v := ve) (by (repeat first | with_reducible exact Pull.head | apply Pull.tail)) ?_; rintro ⟨A2, a2, rfl⟩)
    (refine Tri.shape (e := 101) (size := 2) (v := vk) (by (repeat first | with_reducible exact Pull.head | apply Pull.tail)) ?_; rintro ⟨B2, b2, rfl⟩)
    (refine Tri.shape (e := 3) (size := 1) (v := vd) (by (repeat first | with_reducible exact Pull.head | apply Pull.tail)) ?_; rintro ⟨C2, c2, rfl⟩)
    ((with_reducible apply TriN.back); (case hp => exact ⟨_, rfl⟩); (case p => (repeat first | exact Pulls.nil | (apply Pulls.cons; repeat first | with_reducible exact Pull.head | apply Pull.tail))))
    rotate_left
    ((with_reducible apply o_litSl (ys := [])); (case hp => (repeat first | exact pev.nil | (apply pev.cons; case a => rfl))); (case hm => rfl); (case hf => rfl); (case hn => rfl); intro y5)
    ((with_reducible apply TriN.back); (case hp => exact ⟨_, rfl⟩); (case p => (repeat first | exact Pulls.nil | (apply Pulls.cons; repeat first | with_reducible exact Pull.head | apply Pull.tail))))
    ((with_reducible apply TriN.a 13); (case ho => rfl); (case hg => rfl); (case hr => kernel_rfl); (try dsimp only [List.cons_append, List.nil_append]))
    ((with_reducible apply o_append (m2 := K.length) (news := KL K)); (case hx => rfl); (case hy => rfl); (case p => (repeat first | with_reducible exact Pull.head | apply Pull.tail)); (case hr => exact rdw_exM (by (repeat first | with_reducible exact Pull.head | apply Pull.tail)) (.tail _ (.head _))); (case hl => exact KL_lens K rfl); (case h1 => exact KL_ones K); (case hb => omega); (case hn => rfl))
    intro vk
    ((with_reducible apply TriN.back); (case hp => exact ⟨_, rfl⟩); (case p => (repeat first | exact Pulls.nil | (apply Pulls.cons; repeat first | with_reducible exact Pull.head | apply Pull.tail))))
    ((with_reducible apply TriN.a 17); (case ho => rfl); (case hg => rfl); (case hr => kernel_rfl); (try dsimp only [List.cons_append, List.nil_append]))
    ((with_reducible apply o_append (m2 := D.length) (news := NL D)); (case hx => rfl); (case hy => rfl); (case p => (repeat first | with_reducible exact Pull.head | apply Pull.tail)); (case hr => exact rdw_exM (by (repeat first | with_reducible exact Pull.head | apply Pull.tail)) (.tail _ (.tail _ (.head _)))); (case hl => exact NL_lens D rfl); (case h1 => exact NL_one5 D); (case hb => omega); (case hn => rfl))
    intro y6
    ((with_reducible apply TriN.back); (case hp => exact ⟨_, rfl⟩); (case p => (repeat first | exact Pulls.nil | (apply Pulls.cons; repeat first | with_reducible exact Pull.head | apply Pull.tail))))
    ((with_reducible apply TriN.a 20); (case ho => rfl); (case hg => rfl); (case hr => kernel_rfl); (try dsimp only [List.cons_append, List.nil_append]))
    ((with_reducible apply o_append (m2 := D.length) (news := NL D)); (case hx => rfl); (case hy => rfl); (case p => (repeat first | with_reducible exact Pull.head | apply Pull.tail)); (case hr => exact rdw_exM (by (repeat first | with_reducible exact Pull.head | apply Pull.tail)) (.tail _ (.tail _ (.head _)))); (case hl => exact NL_lens D rfl); (case h1 => exact NL_one5 D); (case hb => omega); (case hn => rfl))
    intro vd
    (refine Tri.shape (e := 103) (size := 8) (v := ve) (by (repeat first | with_reducible exact Pull.head | apply Pull.tail)) ?_; rintro ⟨A2, a2, rfl⟩)
    (refine Tri.shape (e := 101) (size := 2) (v := vk) (by (repeat first | with_reducible exact Pull.head | apply Pull.tail)) ?_; rintro ⟨B2, b2, rfl⟩)
    (refine Tri.shape (e := 3) (size := 1) (v := vd) (by (repeat first | with_reducible exact Pull.head | apply Pull.tail)) ?_; rintro ⟨C2, c2, rfl⟩)
    ((with_reducible apply TriN.back); (case hp => exact ⟨_, rfl⟩); (case p => (repeat first | exact Pulls.nil | (apply Pulls.cons; repeat first | with_reducible exact Pull.head | apply Pull.tail))))
    rotate_left
    ((with_reducible apply o_litSl (ys := [])); (case hp => (repeat first | exact pev.nil | (apply pev.cons; case a => rfl))); (case hm => rfl); (case hf => rfl); (case hn => rfl); intro y5)
    ((with_reducible apply TriN.back); (case hp => exact ⟨_, rfl⟩); (case p => (repeat first | exact Pulls.nil | (apply Pulls.cons; repeat first | with_reducible exact Pull.head | apply Pull.tail))))
    ((with_reducible apply TriN.a 10); (case ho => rfl); (case hg => rfl); (case hr => kernel_rfl); (try dsimp only [List.cons_append, List.nil_append]))
    ((with_reducible apply o_append (m2 := K.length) (news := KL K)); (case hx => rfl); (case hy => rfl); (case p => (repeat first | with_reducible exact Pull.head | apply Pull.tail)); (case hr => exact rdw_exM (by (repeat first | with_reducible exact Pull.head | apply Pull.tail)) (.tail _ (.head _))); (case hl => exact KL_lens K rfl); (case h1 => exact KL_ones K); (case hb => omega); (case hn => rfl))
    intro y4
    ((with_reducible apply TriN.back); (case hp => exact ⟨_, rfl⟩); (case p => (repeat first | exact Pulls.nil | (apply Pulls.cons; repeat first | with_reducible exact Pull.head | apply Pull.tail))))
    ((with_reducible apply TriN.a 13); (case ho => rfl); (case hg => rfl); (case hr => kernel_rfl); (try dsimp only [List.cons_append, List.nil_append]))
    ((with_reducible apply o_append (m2 := K.length) (news := KL K)); (case hx => rfl); (case hy => rfl); (case p => (repeat first | with_reducible exact Pull.head | apply Pull.tail)); (case hr => exact rdw_exM (by (repeat first | with_reducible exact Pull.head | apply Pull.tail)) (.tail _ (.head _))); (case hl => exact KL_lens K rfl); (case h1 => exact KL_ones K); (case hb => omega); (case hn => rfl))
    intro vk
    ((with_reducible apply TriN.back); (case hp => exact ⟨_, rfl⟩); (case p => (repeat first | exact Pulls.nil | (apply Pulls.cons; repeat first | with_reducible exact Pull.head | apply Pull.tail))))
    ((with_reducible apply TriN.a 17); (case ho => rfl); (case hg => rfl); (case hr => kernel_rfl); (try dsimp only [List.cons_append, List.nil_append]))
    ((with_reducible apply o_append (m2 := D.length) (news := NL D)); (case hx => rfl); (case hy => rfl); (case p => (repeat first | with_reducible exact Pull.head | apply Pull.tail)); (case hr => exact rdw_exM (by (repeat first | with_reducible exact Pull.head | apply Pull.tail)) (.tail _ (.tail _ (.head _)))); (case hl => exact NL_lens D rfl); (case h1 => exact NL_one5 D); (case hb => omega); (case hn => rfl))
    intro y6
    ((with_reducible apply TriN.back); (case hp => exact ⟨_, rfl⟩); (case p => (repeat first | exact Pulls.nil | (apply Pulls.cons; repeat first | with_reducible exact Pull.head | apply Pull.tail))))
    ((with_reducible apply TriN.a 20); (case ho => rfl); (case hg => rfl); (case hr => kernel_rfl); (try dsimp only [List.cons_append, List.nil_append]))
    ((with_reducible apply o_append (m2 := D.length) (news := NL D)); (case hx => rfl); (case hy => rfl); (case p => (repeat first | with_reducible exact Pull.head | apply Pull.tail)); (case hr => exact rdw_exM (by (repeat first | with_reducible exact Pull.head | apply Pull.tail)) (.tail _ (.tail _ (.head _)))); (case hl => exact NL_lens D rfl); (case h1 => exact NL_one5 D); (case hb => omega); (case hn => rfl))
    intro vd
    (refine Tri.shape (e := 103) (size := 8) (v := ve) (by (repeat first | with_reducible exact Pull.head | apply Pull.tail)) ?_; rintro ⟨A2, a2, rfl⟩)
    (refine Tri.shape (e := 101) (size := 2) (v := vk) (by (repeat first | with_reducible exact Pull.head | apply Pull.tail)) ?_; rintro ⟨B2, b2, rfl⟩)
    (refine Tri.shape (e := 3) (size := 1) (v := vd) (by (repeat first | with_reducible exact Pull.head | apply Pull.tail)) ?_; rintro ⟨C2, c2, rfl⟩)
    ((with_reducible apply TriN.back); (case hp => exact ⟨_, rfl⟩); (case p => (repeat first | exact Pulls.nil | (apply Pulls.cons; repeat first | with_reducible exact Pull.head | apply Pull.tail))))
    rotate_left
    ((with_reducible apply o_litSl (ys := [])); (case hp => (repeat first | exact pev.nil | (apply pev.cons; case a => rfl))); (case hm => rfl); (case hf => rfl); (case hn => rfl); intro y5)
    ((with_reducible apply TriN.back); (case hp => exact ⟨_, rfl⟩); (case p => (repeat first | exact Pulls.nil | (apply Pulls.cons; repeat first | with_reducible exact Pull.head | apply Pull.tail))))
    ((with_reducible apply TriN.a 6); (case ho => rfl); (case hg => rfl); (case hr => kernel_rfl); (try dsimp only [List.cons_append, List.nil_append]))
    ((with_reducible apply o_append (m2 := E.length) (news := EL E)); (case hx => rfl); (case hy => rfl); (case p => (repeat first | with_reducible exact Pull.head | apply Pull.tail)); (case hr => exact rdw_exM (by (repeat first | with_reducible exact Pull.head | apply Pull.tail)) (.head _)); (case hl => exact EL_lens E rfl); (case h1 => exact EL_ones E); (case hb => omega); (case hn => rfl))
    intro ve
    ((with_reducible apply TriN.back); (case hp => exact ⟨_, rfl⟩); (case p => (repeat first | exact Pulls.nil | (apply Pulls.cons; repeat first | with_reducible exact Pull.head | apply Pull.tail))))
    (((with_reducible apply TriN.p 21); (case ho => rfl); (case hg => rfl); (case hB => kernel_rfl); (case hd => rfl); (case hn => rfl); (case h => (intro F K hK; (try dsimp only [List.cons_append, List.nil_append]); (with_reducible apply o_fieldAddr); rfl; rfl; exact hK))))
    ((with_reducible apply TriN.a 10); (case ho => rfl); (case hg => rfl); (case hr => kernel_rfl); (try dsimp only [List.cons_append, List.nil_append]))
    ((with_reducible apply o_append (m2 := K.length) (news := KL K)); (case hx => rfl); (case hy => rfl); (case p => (repeat first | with_reducible exact Pull.head | apply Pull.tail)); (case hr => exact rdw_exM (by (repeat first | with_reducible exact Pull.head | apply Pull.tail)) (.tail _ (.head _))); (case hl => exact KL_lens K rfl); (case h1 => exact KL_ones K); (case hb => omega); (case hn => rfl))
    intro y4
    ((with_reducible apply TriN.back); (case hp => exact ⟨_, rfl⟩); (case p => (repeat first | exact Pulls.nil | (apply Pulls.cons; repeat first | with_reducible exact Pull.head | apply Pull.tail))))
    ((with_reducible apply TriN.a 13); (case ho => rfl); (case hg => rfl); (case hr => kernel_rfl); (try dsimp only [List.cons_append, List.nil_append]))
    ((with_reducible apply o_append (m2 := K.length) (news := KL K)); (case hx => rfl); (case hy => rfl); (case p => (repeat first | with_reducible exact Pull.head | apply Pull.tail)); (case hr => exact rdw_exM (by (repeat first | with_reducible exact Pull.head | apply Pull.tail)) (.tail _ (.head _))); (case hl => exact KL_lens K rfl); (case h1 => exact KL_ones K); (case hb => omega); (case hn => rfl))
    intro vk
    ((with_reducible apply TriN.back); (case hp => exact ⟨_, rfl⟩); (case p => (repeat first | exact Pulls.nil | (apply Pulls.cons; repeat first | with_reducible exact Pull.head | apply Pull.tail))))
    ((with_reducible apply TriN.a 17); (case ho => rfl); (case hg => rfl); (case hr => kernel_rfl); (try dsimp only [List.cons_append, List.nil_append]))
    ((with_reducible apply o_append (m2 := D.length) (news := NL D)); (case hx => rfl); (case hy => rfl); (case p => (repeat first | with_reducible exact Pull.head | apply Pull.tail)); (case hr => exact rdw_exM (by (repeat first | with_reducible exact Pull.head | apply Pull.tail)) (.tail _ (.tail _ (.head _)))); (case hl => exact NL_lens D rfl); (case h1 => exact NL_one5 D); (case hb => omega); (case hn => rfl))
    intro y6
    ((with_reducible apply TriN.back); (case hp => exact ⟨_, rfl⟩); (case p => (repeat first | exact Pulls.nil | (apply Pulls.cons; repeat first | with_reducible exact Pull.head | apply Pull.tail))))
    ((with_reducible apply TriN.a 20); (case ho => rfl); (case hg => rfl); (case hr => kernel_rfl); (try dsimp only [List.cons_append, List.nil_append]))
    ((with_reducible apply o_append (m2 := D.length) (news := NL D)); (case hx => rfl); (case hy => rfl); (case p => (repeat first | with_reducible exact Pull.head | apply Pull.tail)); (case hr => exact rdw_exM (by (repeat first | with_reducible exact Pull.head | apply Pull.tail)) (.tail _ (.tail _ (.head _)))); (case hl => exact NL_lens D rfl); (case h1 => exact NL_one5 D); (case hb => omega); (case hn => rfl))
    intro vd
    (refine Tri.shape (e := 103) (size := 8) (v := ve) (by (repeat first | with_reducible exact Pull.head | apply Pull.tail)) ?_; rintro ⟨A2, a2, rfl⟩)
    (refine Tri.shape (e := 101) (size := 2) (v := vk) (by (repeat first | with_reducible exact Pull.head | apply Pull.tail)) ?_; rintro ⟨B2, b2, rfl⟩)
    (refine Tri.shape (e := 3) (size := 1) (v := vd) (by (repeat first | with_reducible exact Pull.head | apply Pull.tail)) ?_; rintro ⟨C2, c2, rfl⟩)
    ((with_reducible apply TriN.back); (case hp => exact ⟨_, rfl⟩); (case p => (repeat first | exact Pulls.nil | (apply Pulls.cons; repeat first | with_reducible exact Pull.head | apply Pull.tail))))
    rotate_left
    ((with_reducible apply o_litSl (ys := [])); (case hp => (repeat first | exact pev.nil | (apply pev.cons; case a => rfl))); (case hm => rfl); (case hf => rfl); (case hn => rfl); intro y5)
    ((with_reducible apply TriN.back); (case hp => exact ⟨_, rfl⟩); (case p => (repeat first | exact Pulls.nil | (apply Pulls.cons; repeat first | with_reducible exact Pull.head | apply Pull.tail))))
    ((with_reducible apply TriN.a 3); (case ho => rfl); (case hg => rfl); (case hr => kernel_rfl); (try dsimp only [List.cons_append, List.nil_append]))
    ((with_reducible apply o_append (m2 := E.length) (news := EL E)); (case hx => rfl); (case hy => rfl); (case p => (repeat first | with_reducible exact Pull.head | apply Pull.tail)); (case hr => exact rdw_exM (by (repeat first | with_reducible exact Pull.head | apply Pull.tail)) (.head _)); (case hl => exact EL_lens E rfl); (case h1 => exact EL_ones E); (case hb => omega); (case hn => rfl))
    intro y2
    ((with_reducible apply TriN.back); (case hp => exact ⟨_, rfl⟩); (case p => (repeat first | exact Pulls.nil | (apply Pulls.cons; repeat first | with_reducible exact Pull.head | apply Pull.tail))))
    ((with_reducible apply TriN.a 6); (case ho => rfl); (case hg => rfl); (case hr => kernel_rfl); (try dsimp only [List.cons_append, List.nil_append]))
    ((with_reducible apply o_append (m2 := E.length) (news := EL E)); (case hx => rfl); (case hy => rfl); (case p => (repeat first | with_reducible exact Pull.head | apply Pull.tail)); (case hr => exact rdw_exM (by (repeat first | with_reducible exact Pull.head | apply Pull.tail)) (.head _)); (case hl => exact EL_lens E rfl); (case h1 => exact EL_ones E); (case hb => omega); (case hn => rfl))
    intro ve
    ((with_reducible apply TriN.back); (case hp => exact ⟨_, rfl⟩); (case p => (repeat first | exact Pulls.nil | (apply Pulls.cons; repeat first | with_reducible exact Pull.head | apply Pull.tail))))
    (((with_reducible apply TriN.p 21); (case ho => rfl); (case hg => rfl); (case hB => kernel_rfl); (case hd => rfl); (case hn => rfl); (case h => (intro F K hK; (try dsimp only [List.cons_append, List.nil_append]); (with_reducible apply o_fieldAddr); rfl; rfl; exact hK))))
    ((with_reducible apply TriN.a 10); (case ho => rfl); (case hg => rfl); (case hr => kernel_rfl); (try dsimp only [List.cons_append, List.nil_append]))
    ((with_reducible apply o_append (m2 := K.length) (news := KL K)); (case hx => rfl); (case hy => rfl); (case p => (repeat first | with_reducible exact Pull.head | apply Pull.tail)); (case hr => exact rdw_exM (by (repeat first | with_reducible exact Pull.head | apply Pull.tail)) (.tail _ (.head _))); (case hl => exact KL_lens K rfl); (case h1 => exact KL_ones K); (case hb => omega); (case hn => rfl))
    intro y4
    ((with_reducible apply TriN.back); (case hp => exact ⟨_, rfl⟩); (case p => (repeat first | exact Pulls.nil | (apply Pulls.cons; repeat first | with_reducible exact Pull.head | apply Pull.tail))))
    ((with_reducible apply TriN.a 13); (case ho => rfl); (case hg => rfl); (case hr => kernel_rfl); (try dsimp only [List.cons_append, List.nil_append]))
    ((with_reducible apply o_append (m2 := K.length) (news := KL K)); (case hx => rfl); (case hy => rfl); (case p => (repeat first | with_reducible exact Pull.head | apply Pull.tail)); (case hr => exact rdw_exM (by (repeat first | with_reducible exact Pull.head | apply Pull.tail)) (.tail _ (.head _))); (case hl => exact KL_lens K rfl); (case h1 => exact KL_ones K); (case hb => omega); (case hn => rfl))
    intro vk
    ((with_reducible apply TriN.back); (case hp => exact ⟨_, rfl⟩); (case p => (repeat first | exact Pulls.nil | (apply Pulls.cons; repeat first | with_reducible exact Pull.head | apply Pull.tail))))
    ((with_reducible apply TriN.a 17); (case ho => rfl); (case hg => rfl); (case hr => kernel_rfl); (try dsimp only [List.cons_append, List.nil_append]))
    ((with_reducible apply o_append (m2 := D.length) (news := NL D)); (case hx => rfl); (case hy => rfl); (case p => (repeat first | with_reducible exact Pull.head | apply Pull.tail)); (case hr => exact rdw_exM (by (repeat first | with_reducible exact Pull.head | apply Pull.tail)) (.tail _ (.tail _ (.head _)))); (case hl => exact NL_lens D rfl); (case h1 => exact NL_one5 D); (case hb => omega); (case hn => rfl))
    intro y6
    ((with_reducible apply TriN.back); (case hp => exact ⟨_, rfl⟩); (case p => (repeat first | exact Pulls.nil | (apply Pulls.cons; repeat first | with_reducible exact Pull.head | apply Pull.tail))))
    ((with_reducible apply TriN.a 20); (case ho => rfl); (case hg => rfl); (case hr => kernel_rfl); (try dsimp only [List.cons_append, List.nil_append]))
    ((with_reducible apply o_append (m2 := D.length) (news := NL D)); (case hx => rfl); (case hy => rfl); (case p => (repeat first | with_reducible exact Pull.head | apply Pull.tail)); (case hr => exact rdw_exM (by (repeat first | with_reducible exact Pull.head | apply Pull.tail)) (.tail _ (.tail _ (.head _)))); (case hl => exact NL_lens D rfl); (case h1 => exact NL_one5 D); (case hb => omega); (case hn => rfl))
    intro vd
    (refine Tri.shape (e := 103) (size := 8) (v := ve) (by (repeat first | with_reducible exact Pull.head | apply Pull.tail)) ?_; rintro ⟨A2, a2, rfl⟩)
    (refine Tri.shape (e := 101) (size := 2) (v := vk) (by (repeat first | with_reducible exact Pull.head | apply Pull.tail)) ?_; rintro ⟨B2, b2, rfl⟩)
    (refine Tri.shape (e := 3) (size := 1) (v := vd) (by (repeat first | with_reducible exact Pull.head | apply Pull.tail)) ?_; rintro ⟨C2, c2, rfl⟩)
    ((with_reducible apply TriN.back); (case hp => exact ⟨_, rfl⟩); (case p => (repeat first | exact Pulls.nil | (apply Pulls.cons; repeat first | with_reducible exact Pull.head | apply Pull.tail))))
    rotate_left
    ((with_reducible apply o_litSl (ys := [])); (case hp => (repeat first | exact pev.nil | (apply pev.cons; case a => rfl))); (case hm => rfl); (case hf => rfl); (case hn => rfl); intro y5)
    ((with_reducible apply TriN.back); (case hp => exact ⟨_, rfl⟩); (case p => (repeat first | exact Pulls.nil | (apply Pulls.cons; repeat first | with_reducible exact Pull.head | apply Pull.tail))))
    ((with_reducible apply TriN.a 0); (case ho => rfl); (case hg => rfl); (case hr => kernel_rfl); (try dsimp only [List.cons_append, List.nil_append]))
    ((with_reducible apply o_litSl (ys := [])); (case hp => (repeat first | exact pev.nil | (apply pev.cons; case a => rfl))); (case hm => rfl); (case hf => rfl); (case hn => rfl); intro y1)
    ((with_reducible apply TriN.back); (case hp => exact ⟨_, rfl⟩); (case p => (repeat first | exact Pulls.nil | (apply Pulls.cons; repeat first | with_reducible exact Pull.head | apply Pull.tail))))
    ((with_reducible apply TriN.a 3); (case ho => rfl); (case hg => rfl); (case hr => kernel_rfl); (try dsimp only [List.cons_append, List.nil_append]))
    ((with_reducible apply o_append (m2 := E.length) (news := EL E)); (case hx => rfl); (case hy => rfl); (case p => (repeat first | with_reducible exact Pull.head | apply Pull.tail)); (case hr => exact rdw_exM (by (repeat first | with_reducible exact Pull.head | apply Pull.tail)) (.head _)); (case hl => exact EL_lens E rfl); (case h1 => exact EL_ones E); (case hb => omega); (case hn => rfl))
    intro y2
    ((with_reducible apply TriN.back); (case hp => exact ⟨_, rfl⟩); (case p => (repeat first | exact Pulls.nil | (apply Pulls.cons; repeat first | with_reducible exact Pull.head | apply Pull.tail))))
    ((with_reducible apply TriN.a 6); (case ho => rfl); (case hg => rfl); (case hr => kernel_rfl); (try dsimp only [List.cons_append, List.nil_append]))
    ((with_reducible apply o_append (m2 := E.length) (news := EL E)); (case hx => rfl); (case hy => rfl); (case p => (repeat first | with_reducible exact Pull.head | apply Pull.tail)); (case hr => exact rdw_exM (by (repeat first | with_reducible exact Pull.head | apply Pull.tail)) (.head _)); (case hl => exact EL_lens E rfl); (case h1 => exact EL_ones E); (case hb => omega); (case hn => rfl))
    intro ve
    ((with_reducible apply TriN.back); (case hp => exact ⟨_, rfl⟩); (case p => (repeat first | exact Pulls.nil | (apply Pulls.cons; repeat first | with_reducible exact Pull.head | apply Pull.tail))))
    (((with_reducible apply TriN.p 21); (case ho => rfl); (case hg => rfl); (case hB => kernel_rfl); (case hd => rfl); (case hn => rfl); (case h => (intro F K hK; (try dsimp only [List.cons_append, List.nil_append]); (with_reducible apply o_fieldAddr); rfl; rfl; exact hK))))
    ((with_reducible apply TriN.a 10); (case ho => rfl); (case hg => rfl); (case hr => kernel_rfl); (try dsimp only [List.cons_append, List.nil_append]))
    ((with_reducible apply o_append (m2 := K.length) (news := KL K)); (case hx => rfl); (case hy => rfl); (case p => (repeat first | with_reducible exact Pull.head | apply Pull.tail)); (case hr => exact rdw_exM (by (repeat first | with_reducible exact Pull.head | apply Pull.tail)) (.tail _ (.head _))); (case hl => exact KL_lens K rfl); (case h1 => exact KL_ones K); (case hb => omega); (case hn => rfl))
    intro y4
    ((with_reducible apply TriN.back); (case hp => exact ⟨_, rfl⟩); (case p => (repeat first | exact Pulls.nil | (apply Pulls.cons; repeat first | with_reducible exact Pull.head | apply Pull.tail))))
    ((with_reducible apply TriN.a 13); (case ho => rfl); (case hg => rfl); (case hr => kernel_rfl); (try dsimp only [List.cons_append, List.nil_append]))
    ((with_reducible apply o_append (m2 := K.length) (news := KL K)); (case hx => rfl); (case hy => rfl); (case p => (repeat first | with_reducible exact Pull.head | apply Pull.tail)); (case hr => exact rdw_exM (by (repeat first | with_reducible exact Pull.head | apply Pull.tail)) (.tail _ (.head _))); (case hl => exact KL_lens K rfl); (case h1 => exact KL_ones K); (case hb => omega); (case hn => rfl))
    intro vk
    ((with_reducible apply TriN.back); (case hp => exact ⟨_, rfl⟩); (case p => (repeat first | exact Pulls.nil | (apply Pulls.cons; repeat first | with_reducible exact Pull.head | apply Pull.tail))))
    ((with_reducible apply TriN.a 17); (case ho => rfl); (case hg => rfl); (case hr => kernel_rfl); (try dsimp only [List.cons_append, List.nil_append]))
    ((with_reducible apply o_append (m2 := D.length) (news := NL D)); (case hx => rfl); (case hy => rfl); (case p => (repeat first | with_reducible exact Pull.head | apply Pull.tail)); (case hr => exact rdw_exM (by (repeat first | with_reducible exact Pull.head | apply Pull.tail)) (.tail _ (.tail _ (.head _)))); (case hl => exact NL_lens D rfl); (case h1 => exact NL_one5 D); (case hb => omega); (case hn => rfl))
    intro y6
    ((with_reducible apply TriN.back); (case hp => exact ⟨_, rfl⟩); (case p => (repeat first | exact Pulls.nil | (apply Pulls.cons; repeat first | with_reducible exact Pull.head | apply Pull.tail))))
    ((with_reducible apply TriN.a 20); (case ho => rfl); (case hg => rfl); (case hr => kernel_rfl); (try dsimp only [List.cons_append, List.nil_append]))
    ((with_reducible apply o_append (m2 := D.length) (news := NL D)); (case hx => rfl); (case hy => rfl); (case p => (repeat first | with_reducible exact Pull.head | apply Pull.tail)); (case hr => exact rdw_exM (by (repeat first | with_reducible exact Pull.head | apply Pull.tail)) (.tail _ (.tail _ (.head _)))); (case hl => exact NL_lens D rfl); (case h1 => exact NL_one5 D); (case hb => omega); (case hn => rfl))
    intro vd
    (refine Tri.shape (e := 103) (size := 8) (v := ve) (by (repeat first | with_reducible exact Pull.head | apply Pull.tail)) ?_; rintro ⟨A2, a2, rfl⟩)
    (refine Tri.shape (e := 101) (size := 2) (v := vk) (by (repeat first | with_reducible exact Pull.head | apply Pull.tail)) ?_; rintro ⟨B2, b2, rfl⟩)
    (refine Tri.shape (e := 3) (size := 1) (v := vd) (by (repeat first | with_reducible exact Pull.head | apply Pull.tail)) ?_; rintro ⟨C2, c2, rfl⟩)
    ((with_reducible apply TriN.back); (case hp => exact ⟨_, rfl⟩); (case p => (repeat first | exact Pulls.nil | (apply Pulls.cons; repeat first | with_reducible exact Pull.head | apply Pull.tail))))
    rotate_left
    ((with_reducible apply o_litSl (ys := [])); (case hp => (repeat first | exact pev.nil | (apply pev.cons; case a => rfl))); (case hm => rfl); (case hf => rfl); (case hn => rfl); intro y5)
    ((with_reducible apply TriN.back); (case hp => exact ⟨_, rfl⟩); (case p => (repeat first | exact Pulls.nil | (apply Pulls.cons; repeat first | with_reducible exact Pull.head | apply Pull.tail))))
    ((with_reducible apply TriN.a2 0 7); (case hoi => rfl); (case hoj => rfl); (case hgi => rfl); (case hgj => rfl); (case hr => kernel_rfl); (all_goals (try dsimp only [List.cons_append, List.nil_append])))
    ((with_reducible apply o_litSl (ys := [])); (case hp => (repeat first | exact pev.nil | (apply pev.cons; case a => rfl))); (case hm => rfl); (case hf => rfl); (case hn => rfl); intro y1)
    ((with_reducible apply TriN.back); (case hp => exact ⟨_, rfl⟩); (case p => (repeat first | exact Pulls.nil | (apply Pulls.cons; repeat first | with_reducible exact Pull.head | apply Pull.tail))))
    ((with_reducible apply TriN.a2 3 7); (case hoi => rfl); (case hoj => rfl); (case hgi => rfl); (case hgj => rfl); (case hr => kernel_rfl); (all_goals (try dsimp only [List.cons_append, List.nil_append])))
    ((with_reducible apply o_append (m2 := E.length) (news := EL E)); (case hx => rfl); (case hy => rfl); (case p => (repeat first | with_reducible exact Pull.head | apply Pull.tail)); (case hr => exact rdw_exM (by (repeat first | with_reducible exact Pull.head | apply Pull.tail)) (.head _)); (case hl => exact EL_lens E rfl); (case h1 => exact EL_ones E); (case hb => omega); (case hn => rfl))
    intro y2
    ((with_reducible apply TriN.back); (case hp => exact ⟨_, rfl⟩); (case p => (repeat first | exact Pulls.nil | (apply Pulls.cons; repeat first | with_reducible exact Pull.head | apply Pull.tail))))
    ((with_reducible apply TriN.a2 6 7); (case hoi => rfl); (case hoj => rfl); (case hgi => rfl); (case hgj => rfl); (case hr => kernel_rfl); (all_goals (try dsimp only [List.cons_append, List.nil_append])))
    ((with_reducible apply o_append (m2 := E.length) (news := EL E)); (case hx => rfl); (case hy => rfl); (case p => (repeat first | with_reducible exact Pull.head | apply Pull.tail)); (case hr => exact rdw_exM (by (repeat first | with_reducible exact Pull.head | apply Pull.tail)) (.head _)); (case hl => exact EL_lens E rfl); (case h1 => exact EL_ones E); (case hb => omega); (case hn => rfl))
    intro ve
    ((with_reducible apply TriN.back); (case hp => exact ⟨_, rfl⟩); (case p => (repeat first | exact Pulls.nil | (apply Pulls.cons; repeat first | with_reducible exact Pull.head | apply Pull.tail))))
    (((with_reducible apply TriN.p 21); (case ho => rfl); (case hg => rfl); (case hB => kernel_rfl); (case hd => rfl); (case hn => rfl); (case h => (intro F K hK; (try dsimp only [List.cons_append, List.nil_append]); (with_reducible apply o_fieldAddr); rfl; rfl; exact hK))))
    ((with_reducible apply TriN.a 7); (case ho => rfl); (case hg => rfl); (case hr => kernel_rfl); (try dsimp only [List.cons_append, List.nil_append]))
    ((with_reducible apply o_litSl (ys := [])); (case hp => (repeat first | exact pev.nil | (apply pev.cons; case a => rfl))); (case hm => rfl); (case hf => rfl); (case hn => rfl); intro y3)
    ((with_reducible apply TriN.back); (case hp => exact ⟨_, rfl⟩); (case p => (repeat first | exact Pulls.nil | (apply Pulls.cons; repeat first | with_reducible exact Pull.head | apply Pull.tail))))
    ((with_reducible apply TriN.a 10); (case ho => rfl); (case hg => rfl); (case hr => kernel_rfl); (try dsimp only [List.cons_append, List.nil_append]))
    ((with_reducible apply o_append (m2 := K.length) (news := KL K)); (case hx => rfl); (case hy => rfl); (case p => (repeat first | with_reducible exact Pull.head | apply Pull.tail)); (case hr => exact rdw_exM (by (repeat first | with_reducible exact Pull.head | apply Pull.tail)) (.tail _ (.head _))); (case hl => exact KL_lens K rfl); (case h1 => exact KL_ones K); (case hb => omega); (case hn => rfl))
    intro y4
    ((with_reducible apply TriN.back); (case hp => exact ⟨_, rfl⟩); (case p => (repeat first | exact Pulls.nil | (apply Pulls.cons; repeat first | with_reducible exact Pull.head | apply Pull.tail))))
    ((with_reducible apply TriN.a 13); (case ho => rfl); (case hg => rfl); (case hr => kernel_rfl); (try dsimp only [List.cons_append, List.nil_append]))
    ((with_reducible apply o_append (m2 := K.length) (news := KL K)); (case hx => rfl); (case hy => rfl); (case p => (repeat first | with_reducible exact Pull.head | apply Pull.tail)); (case hr => exact rdw_exM (by (repeat first | with_reducible exact Pull.head | apply Pull.tail)) (.tail _ (.head _))); (case hl => exact KL_lens K rfl); (case h1 => exact KL_ones K); (case hb => omega); (case hn => rfl))
    intro vk
    ((with_reducible apply TriN.back); (case hp => exact ⟨_, rfl⟩); (case p => (repeat first | exact Pulls.nil | (apply Pulls.cons; repeat first | with_reducible exact Pull.head | apply Pull.tail))))
    ((with_reducible apply TriN.a 17); (case ho => rfl); (case hg => rfl); (case hr => kernel_rfl); (try dsimp only [List.cons_append, List.nil_append]))
    ((with_reducible apply o_append (m2 := D.length) (news := NL D)); (case hx => rfl); (case hy => rfl); (case p => (repeat first | with_reducible exact Pull.head | apply Pull.tail)); (case hr => exact rdw_exM (by (repeat first | with_reducible exact Pull.head | apply Pull.tail)) (.tail _ (.tail _ (.head _)))); (case hl => exact NL_lens D rfl); (case h1 => exact NL_one5 D); (case hb => omega); (case hn => rfl))
    intro y6
    ((with_reducible apply TriN.back); (case hp => exact ⟨_, rfl⟩); (case p => (repeat first | exact Pulls.nil | (apply Pulls.cons; repeat first | with_reducible exact Pull.head | apply Pull.tail))))
    ((with_reducible apply TriN.a 20); (case ho => rfl); (case hg => rfl); (case hr => kernel_rfl); (try dsimp only [List.cons_append, List.nil_append]))
    ((with_reducible apply o_append (m2 := D.length) (news := NL D)); (case hx => rfl); (case hy => rfl); (case p => (repeat first | with_reducible exact Pull.head | apply Pull.tail)); (case hr => exact rdw_exM (by (repeat first | with_reducible exact Pull.head | apply Pull.tail)) (.tail _ (.tail _ (.head _)))); (case hl => exact NL_lens D rfl); (case h1 => exact NL_one5 D); (case hb => omega); (case hn => rfl))
    intro vd
    (refine Tri.shape (e := 103) (size := 8) (v := ve) (by (repeat first | with_reducible exact Pull.head | apply Pull.tail)) ?_; rintro ⟨A2, a2, rfl⟩)
    (refine Tri.shape (e := 101) (size := 2) (v := vk) (by (repeat first | with_reducible exact Pull.head | apply Pull.tail)) ?_; rintro ⟨B2, b2, rfl⟩)
    (refine Tri.shape (e := 3) (size := 1) (v := vd) (by (repeat first | with_reducible exact Pull.head | apply Pull.tail)) ?_; rintro ⟨C2, c2, rfl⟩)
    ((with_reducible apply TriN.back); (case hp => exact ⟨_, rfl⟩); (case p => (repeat first | exact Pulls.nil | (apply Pulls.cons; repeat first | with_reducible exact Pull.head | apply Pull.tail))))
    rotate_left
    ((with_reducible apply o_litSl (ys := [])); (case hp => (repeat first | exact pev.nil | (apply pev.cons; case a => rfl))); (case hm => rfl); (case hf => rfl); (case hn => rfl); intro y3)
    ((with_reducible apply TriN.back); (case hp => exact ⟨_, rfl⟩); (case p => (repeat first | exact Pulls.nil | (apply Pulls.cons; repeat first | with_reducible exact Pull.head | apply Pull.tail))))
    ((with_reducible apply TriN.a 6); (case ho => rfl); (case hg => rfl); (case hr => kernel_rfl); (try dsimp only [List.cons_append, List.nil_append]))
    ((with_reducible apply o_append (m2 := E.length) (news := EL E)); (case hx => rfl); (case hy => rfl); (case p => (repeat first | with_reducible exact Pull.head | apply Pull.tail)); (case hr => exact rdw_exM (by (repeat first | with_reducible exact Pull.head | apply Pull.tail)) (.head _)); (case hl => exact EL_lens E rfl); (case h1 => exact EL_ones E); (case hb => omega); (case hn => rfl))
    intro ve
    ((with_reducible apply TriN.back); (case hp => exact ⟨_, rfl⟩); (case p => (repeat first | exact Pulls.nil | (apply Pulls.cons; repeat first | with_reducible exact Pull.head | apply Pull.tail))))
    (((with_reducible apply TriN.p 21); (case ho => rfl); (case hg => rfl); (case hB => kernel_rfl); (case hd => rfl); (case hn => rfl); (case h => (intro F K hK; (try dsimp only [List.cons_append, List.nil_append]); (with_reducible apply o_fieldAddr); rfl; rfl; exact hK))))
    ((with_reducible apply TriN.a 10); (case ho => rfl); (case hg => rfl); (case hr => kernel_rfl); (try dsimp only [List.cons_append, List.nil_append]))
    ((with_reducible apply o_append (m2 := K.length) (news := KL K)); (case hx => rfl); (case hy => rfl); (case p => (repeat first | with_reducible exact Pull.head | apply Pull.tail)); (case hr => exact rdw_exM (by (repeat first | with_reducible exact Pull.head | apply Pull.tail)) (.tail _ (.head _))); (case hl => exact KL_lens K rfl); (case h1 => exact KL_ones K); (case hb => omega); (case hn => rfl))
    intro y4
    ((with_reducible apply TriN.back); (case hp => exact ⟨_, rfl⟩); (case p => (repeat first | exact Pulls.nil | (apply Pulls.cons; repeat first | with_reducible exact Pull.head | apply Pull.tail))))
    ((with_reducible apply TriN.a 13); (case ho => rfl); (case hg => rfl); (case hr => kernel_rfl); (try dsimp only [List.cons_append, List.nil_append]))
    ((with_reducible apply o_append (m2 := K.length) (news := KL K)); (case hx => rfl); (case hy => rfl); (case p => (repeat first | with_reducible exact Pull.head | apply Pull.tail)); (case hr => exact rdw_exM (by (repeat first | with_reducible exact Pull.head | apply Pull.tail)) (.tail _ (.head _))); (case hl => exact KL_lens K rfl); (case h1 => exact KL_ones K); (case hb => omega); (case hn => rfl))
    intro vk
    ((with_reducible apply TriN.back); (case hp => exact ⟨_, rfl⟩); (case p => (repeat first | exact Pulls.nil | (apply Pulls.cons; repeat first | with_reducible exact Pull.head | apply Pull.tail))))
    ((with_reducible apply TriN.a 17); (case ho => rfl); (case hg => rfl); (case hr => kernel_rfl); (try dsimp only [List.cons_append, List.nil_append]))
    ((with_reducible apply o_append (m2 := D.length) (news := NL D)); (case hx => rfl); (case hy => rfl); (case p => (repeat first | with_reducible exact Pull.head | apply Pull.tail)); (case hr => exact rdw_exM (by (repeat first | with_reducible exact Pull.head | apply Pull.tail)) (.tail _ (.tail _ (.head _)))); (case hl => exact NL_lens D rfl); (case h1 => exact NL_one5 D); (case hb => omega); (case hn => rfl))
    intro y6
    ((with_reducible apply TriN.back); (case hp => exact ⟨_, rfl⟩); (case p => (repeat first | exact Pulls.nil | (apply Pulls.cons; repeat first | with_reducible exact Pull.head | apply Pull.tail))))
    ((with_reducible apply TriN.a 20); (case ho => rfl); (case hg => rfl); (case hr => kernel_rfl); (try dsimp only [List.cons_append, List.nil_append]))
    ((with_reducible apply o_append (m2 := D.length) (news := NL D)); (case hx => rfl); (case hy => rfl); (case p => (repeat first | with_reducible exact Pull.head | apply Pull.tail)); (case hr => exact rdw_exM (by (repeat first | with_reducible exact Pull.head | apply Pull.tail)) (.tail _ (.tail _ (.head _)))); (case hl => exact NL_lens D rfl); (case h1 => exact NL_one5 D); (case hb => omega); (case hn => rfl))
    intro vd
    (refine Tri.shape (e := 103) (size := 8) (v := ve) (by (repeat first | with_reducible exact Pull.head | apply Pull.tail)) ?_; rintro ⟨A2, a2, rfl⟩)
    (refine Tri.shape (e := 101) (size := 2) (v := vk) (by (repeat first | with_reducible exact Pull.head | apply Pull.tail)) ?_; rintro ⟨B2, b2, rfl⟩)
    (refine Tri.shape (e := 3) (size := 1) (v := vd) (by (repeat first | with_reducible exact Pull.head | apply Pull.tail)) ?_; rintro ⟨C2, c2, rfl⟩)
    ((with_reducible apply TriN.back); (case hp => exact ⟨_, rfl⟩); (case p => (repeat first | exact Pulls.nil | (apply Pulls.cons; repeat first | with_reducible exact Pull.head | apply Pull.tail))))
    rotate_left
    ((with_reducible apply o_litSl (ys := [])); (case hp => (repeat first | exact pev.nil | (apply pev.cons; case a => rfl))); (case hm => rfl); (case hf => rfl); (case hn => rfl); intro y3)
    ((with_reducible apply TriN.back); (case hp => exact ⟨_, rfl⟩); (case p => (repeat first | exact Pulls.nil | (apply Pulls.cons; repeat first | with_reducible exact Pull.head | apply Pull.tail))))
    ((with_reducible apply TriN.a 3); (case ho => rfl); (case hg => rfl); (case hr => kernel_rfl); (try dsimp only [List.cons_append, List.nil_append]))
    ((with_reducible apply o_append (m2 := E.length) (news := EL E)); (case hx => rfl); (case hy => rfl); (case p => (repeat first | with_reducible exact Pull.head | apply Pull.tail)); (case hr => exact rdw_exM (by (repeat first | with_reducible exact Pull.head | apply Pull.tail)) (.head _)); (case hl => exact EL_lens E rfl); (case h1 => exact EL_ones E); (case hb => omega); (case hn => rfl))
    intro y2
    ((with_reducible apply TriN.back); (case hp => exact ⟨_, rfl⟩); (case p => (repeat first | exact Pulls.nil | (apply Pulls.cons; repeat first | with_reducible exact Pull.head | apply Pull.tail))))
    ((with_reducible apply TriN.a 6); (case ho => rfl); (case hg => rfl); (case hr => kernel_rfl); (try dsimp only [List.cons_append, List.nil_append]))
    ((with_reducible apply o_append (m2 := E.length) (news := EL E)); (case hx => rfl); (case hy => rfl); (case p => (repeat first | with_reducible exact Pull.head | apply Pull.tail)); (case hr => exact rdw_exM (by (repeat first | with_reducible exact Pull.head | apply Pull.tail)) (.head _)); (case hl => exact EL_lens E rfl); (case h1 => exact EL_ones E); (case hb => omega); (case hn => rfl))
    intro ve
    ((with_reducible apply TriN.back); (case hp => exact ⟨_, rfl⟩); (case p => (repeat first | exact Pulls.nil | (apply Pulls.cons; repeat first | with_reducible exact Pull.head | apply Pull.tail))))
    (((with_reducible apply TriN.p 21); (case ho => rfl); (case hg => rfl); (case hB => kernel_rfl); (case hd => rfl); (case hn => rfl); (case h => (intro F K hK; (try dsimp only [List.cons_append, List.nil_append]); (with_reducible apply o_fieldAddr); rfl; rfl; exact hK))))
    ((with_reducible apply TriN.a 10); (case ho => rfl); (case hg => rfl); (case hr => kernel_rfl); (try dsimp only [List.cons_append, List.nil_append]))
    ((with_reducible apply o_append (m2 := K.length) (news := KL K)); (case hx => rfl); (case hy => rfl); (case p => (repeat first | with_reducible exact Pull.head | apply Pull.tail)); (case hr => exact rdw_exM (by (repeat first | with_reducible exact Pull.head | apply Pull.tail)) (.tail _ (.head _))); (case hl => exact KL_lens K rfl); (case h1 => exact KL_ones K); (case hb => omega); (case hn => rfl))
    intro y4
    ((with_reducible apply TriN.back); (case hp => exact ⟨_, rfl⟩); (case p => (repeat first | exact Pulls.nil | (apply Pulls.cons; repeat first | with_reducible exact Pull.head | apply Pull.tail))))
    ((with_reducible apply TriN.a 13); (case ho => rfl); (case hg => rfl); (case hr => kernel_rfl); (try dsimp only [List.cons_append, List.nil_append]))
    ((with_reducible apply o_append (m2 := K.length) (news := KL K)); (case hx => rfl); (case hy => rfl); (case p => (repeat first | with_reducible exact Pull.head | apply Pull.tail)); (case hr => exact rdw_exM (by (repeat first | with_reducible exact Pull.head | apply Pull.tail)) (.tail _ (.head _))); (case hl => exact KL_lens K rfl); (case h1 => exact KL_ones K); (case hb => omega); (case hn => rfl))
    intro vk
    ((with_reducible apply TriN.back); (case hp => exact ⟨_, rfl⟩); (case p => (repeat first | exact Pulls.nil | (apply Pulls.cons; repeat first | with_reducible exact Pull.head | apply Pull.tail))))
    ((with_reducible apply TriN.a 17); (case ho => rfl); (case hg => rfl); (case hr => kernel_rfl); (try dsimp only [List.cons_append, List.nil_append]))
    ((with_reducible apply o_append (m2 := D.length) (news := NL D)); (case hx => rfl); (case hy => rfl); (case p => (repeat first | with_reducible exact Pull.head | apply Pull.tail)); (case hr => exact rdw_exM (by (repeat first | with_reducible exact Pull.head | apply Pull.tail)) (.tail _ (.tail _ (.head _)))); (case hl => exact NL_lens D rfl); (case h1 => exact NL_one5 D); (case hb => omega); (case hn => rfl))
    intro y6
    ((with_reducible apply TriN.back); (case hp => exact ⟨_, rfl⟩); (case p => (repeat first | exact Pulls.nil | (apply Pulls.cons; repeat first | with_reducible exact Pull.head | apply Pull.tail))))
    ((with_reducible apply TriN.a 20); (case ho => rfl); (case hg => rfl); (case hr => kernel_rfl); (try dsimp only [List.cons_append, List.nil_append]))
    ((with_reducible apply o_append (m2 := D.length) (news := NL D)); (case hx => rfl); (case hy => rfl); (case p => (repeat first | with_reducible exact Pull.head | apply Pull.tail)); (case hr => exact rdw_exM (by (repeat first | with_reducible exact Pull.head | apply Pull.tail)) (.tail _ (.tail _ (.head _)))); (case hl => exact NL_lens D rfl); (case h1 => exact NL_one5 D); (case hb => omega); (case hn => rfl))
    intro vd
    (refine Tri.shape (e := 103) (size := 8) (v := ve) (by (repeat first | with_reducible exact Pull.head | apply Pull.tail)) ?_; rintro ⟨A2, a2, rfl⟩)
    (refine Tri.shape (e := 101) (size := 2) (v := vk) (by (repeat first | with_reducible exact Pull.head | apply Pull.tail)) ?_; rintro ⟨B2, b2, rfl⟩)
    (refine Tri.shape (e := 3) (size := 1) (v := vd) (by (repeat first | with_reducible exact Pull.head | apply Pull.tail)) ?_; rintro ⟨C2, c2, rfl⟩)
    ((with_reducible apply TriN.back); (case hp => exact ⟨_, rfl⟩); (case p => (repeat first | exact Pulls.nil | (apply Pulls.cons; repeat first | with_reducible exact Pull.head | apply Pull.tail))))
    rotate_left
    ((with_reducible apply o_litSl (ys := [])); (case hp => (repeat first | exact pev.nil | (apply pev.cons; case a => rfl))); (case hm => rfl); (case hf => rfl); (case hn => rfl); intro y3)
    ((with_reducible apply TriN.back); (case hp => exact ⟨_, rfl⟩); (case p => (repeat first | exact Pulls.nil | (apply Pulls.cons; repeat first | with_reducible exact Pull.head | apply Pull.tail))))
    ((with_reducible apply TriN.a 0); (case ho => rfl); (case hg => rfl); (case hr => kernel_rfl); (try dsimp only [List.cons_append, List.nil_append]))
    ((with_reducible apply o_litSl (ys := [])); (case hp => (repeat first | exact pev.nil | (apply pev.cons; case a => rfl))); (case hm => rfl); (case hf => rfl); (case hn => rfl); intro y1)
    ((with_reducible apply TriN.back); (case hp => exact ⟨_, rfl⟩); (case p => (repeat first | exact Pulls.nil | (apply Pulls.cons; repeat first | with_reducible exact Pull.head | apply Pull.tail))))
    ((with_reducible apply TriN.a 3); (case ho => rfl); (case hg => rfl); (case hr => kernel_rfl); (try dsimp only [List.cons_append, List.nil_append]))
    ((with_reducible apply o_append (m2 := E.length) (news := EL E)); (case hx => rfl); (case hy => rfl); (case p => (repeat first | with_reducible exact Pull.head | apply Pull.tail)); (case hr => exact rdw_exM (by (repeat first | with_reducible exact Pull.head | apply Pull.tail)) (.head _)); (case hl => exact EL_lens E rfl); (case h1 => exact EL_ones E); (case hb => omega); (case hn => rfl))
    intro y2
    ((with_reducible apply TriN.back); (case hp => exact ⟨_, rfl⟩); (case p => (repeat first | exact Pulls.nil | (apply Pulls.cons; repeat first | with_reducible exact Pull.head | apply Pull.tail))))
    ((with_reducible apply TriN.a 6); (case ho => rfl); (case hg => rfl); (case hr => kernel_rfl); (try dsimp only [List.cons_append, List.nil_append]))
    ((with_reducible apply o_append (m2 := E.length) (news := EL E)); (case hx => rfl); (case hy => rfl); (case p => (repeat first | with_reducible exact Pull.head | apply Pull.tail)); (case hr => exact rdw_exM (by (repeat first | with_reducible exact Pull.head | apply Pull.tail)) (.head _)); (case hl => exact EL_lens E rfl); (case h1 => exact EL_ones E); (case hb => omega); (case hn => rfl))
    intro ve
    ((with_reducible apply TriN.back); (case hp => exact ⟨_, rfl⟩); (case p => (repeat first | exact Pulls.nil | (apply Pulls.cons; repeat first | with_reducible exact Pull.head | apply Pull.tail))))
    (((with_reducible apply TriN.p 21); (case ho => rfl); (case hg => rfl); (case hB => kernel_rfl); (case hd => rfl); (case hn => rfl); (case h => (intro F K hK; (try dsimp only [List.cons_append, List.nil_append]); (with_reducible apply o_fieldAddr); rfl; rfl; exact hK))))
    ((with_reducible apply TriN.a 10); (case ho => rfl); (case hg => rfl); (case hr => kernel_rfl); (try dsimp only [List.cons_append, List.nil_append]))
    ((with_reducible apply o_append (m2 := K.length) (news := KL K)); (case hx => rfl); (case hy => rfl); (case p => (repeat first | with_reducible exact Pull.head | apply Pull.tail)); (case hr => exact rdw_exM (by (repeat first | with_reducible exact Pull.head | apply Pull.tail)) (.tail _ (.head _))); (case hl => exact KL_lens K rfl); (case h1 => exact KL_ones K); (case hb => omega); (case hn => rfl))
    intro y4
    ((with_reducible apply TriN.back); (case hp => exact ⟨_, rfl⟩); (case p => (repeat first | exact Pulls.nil | (apply Pulls.cons; repeat first | with_reducible exact Pull.head | apply Pull.tail))))
    ((with_reducible apply TriN.a 13); (case ho => rfl); (case hg => rfl); (case hr => kernel_rfl); (try dsimp only [List.cons_append, List.nil_append]))
    ((with_reducible apply o_append (m2 := K.length) (news := KL K)); (case hx => rfl); (case hy => rfl); (case p => (repeat first | with_reducible exact Pull.head | apply Pull.tail)); (case hr => exact rdw_exM (by (repeat first | with_reducible exact Pull.head | apply Pull.tail)) (.tail _ (.head _))); (case hl => exact KL_lens K rfl); (case h1 => exact KL_ones K); (case hb => omega); (case hn => rfl))
    intro vk
    ((with_reducible apply TriN.back); (case hp => exact ⟨_, rfl⟩); (case p => (repeat first | exact Pulls.nil | (apply Pulls.cons; repeat first | with_reducible exact Pull.head | apply Pull.tail))))
    ((with_reducible apply TriN.a 17); (case ho => rfl); (case hg => rfl); (case hr => kernel_rfl); (try dsimp only [List.cons_append, List.nil_append]))
    ((with_reducible apply o_append (m2 := D.length) (news := NL D)); (case hx => rfl); (case hy => rfl); (case p => (repeat first | with_reducible exact Pull.head | apply Pull.tail)); (case hr => exact rdw_exM (by (repeat first | with_reducible exact Pull.head | apply Pull.tail)) (.tail _ (.tail _ (.head _)))); (case hl => exact NL_lens D rfl); (case h1 => exact NL_one5 D); (case hb => omega); (case hn => rfl))
    intro y6
    ((with_reducible apply TriN.back); (case hp => exact ⟨_, rfl⟩); (case p => (repeat first | exact Pulls.nil | (apply Pulls.cons; repeat first | with_reducible exact Pull.head | apply Pull.tail))))
    ((with_reducible apply TriN.a 20); (case ho => rfl); (case hg => rfl); (case hr => kernel_rfl); (try dsimp only [List.cons_append, List.nil_append]))
    ((with_reducible apply o_append (m2 := D.length) (news := NL D)); (case hx => rfl); (case hy => rfl); (case p => (repeat first | with_reducible exact Pull.head | apply Pull.tail)); (case hr => exact rdw_exM (by (repeat first | with_reducible exact Pull.head | apply Pull.tail)) (.tail _ (.tail _ (.head _)))); (case hl => exact NL_lens D rfl); (case h1 => exact NL_one5 D); (case hb => omega); (case hn => rfl))
    intro vd
    (refine Tri.shape (e := 103) (size := 8) (v := ve) (by (repeat first | with_reducible exact Pull.head | apply Pull.tail)) ?_; rintro ⟨A2, a2, rfl⟩)
    (refine Tri.shape (e := 101) (size := 2) (v := vk) (by (repeat first | with_reducible exact Pull.head | apply Pull.tail)) ?_; rintro ⟨B2, b2, rfl⟩)
    (refine Tri.shape (e := 3) (size := 1) (v := vd) (by (repeat first | with_reducible exact Pull.head | apply Pull.tail)) ?_; rintro ⟨C2, c2, rfl⟩)
    ((with_reducible apply TriN.back); (case hp => exact ⟨_, rfl⟩); (case p => (repeat first | exact Pulls.nil | (apply Pulls.cons; repeat first | with_reducible exact Pull.head | apply Pull.tail))))
    rotate_left
    all_goals
      ((with_reducible apply TriN.less); (case ho => rfl); (case hg => rfl); (case hr => kernel_rfl); (try dsimp only [List.cons_append, List.nil_append]))
      ((with_reducible apply o_store); (case hx => rfl); (case hy => rfl); (case h1 => rfl); (case p => (repeat first | with_reducible exact Pull.head | apply Pull.tail)); (case hi => exact (by decide : 1 < 4)))
      ((with_reducible apply TriM.back); (case p => (repeat first | exact Pulls.nil | (apply Pulls.cons; repeat first | with_reducible exact Pull.head | apply Pull.tail))))
      ((first | ((with_reducible apply TriM.q 23); rfl; rfl) | ((with_reducible apply TriM.qYes 23); rfl; rfl; rfl; with_reducible rfl)); kernel_rfl; rfl; rfl; (intro F K hK; (with_reducible apply o_fieldAddr); rfl; rfl; exact hK))
      ((with_reducible apply TriM.a 24); (case ho => rfl); (case hg => rfl); (case hr => kernel_rfl); (try dsimp only [List.cons_append, List.nil_append]))
      ((with_reducible apply o_store); (case hx => rfl); (case hy => rfl); (case h1 => rfl); (case p => (repeat first | with_reducible exact Pull.head | apply Pull.tail)); (case hi => exact (by decide : 2 < 4)))
      ((with_reducible apply TriM.back); (case p => (repeat first | exact Pulls.nil | (apply Pulls.cons; repeat first | with_reducible exact Pull.head | apply Pull.tail))))
      ((first | ((with_reducible apply TriM.q 25); rfl; rfl) | ((with_reducible apply TriM.qYes 25); rfl; rfl; rfl; with_reducible rfl)); kernel_rfl; rfl; rfl; (intro F K hK; (with_reducible apply o_fieldAddr); rfl; rfl; exact hK))
      ((with_reducible apply TriM.a 26); (case ho => rfl); (case hg => rfl); (case hr => kernel_rfl); (try dsimp only [List.cons_append, List.nil_append]))
      ((with_reducible apply o_store); (case hx => rfl); (case hy => rfl); (case h1 => rfl); (case p => (repeat first | with_reducible exact Pull.head | apply Pull.tail)); (case hi => exact (by decide : 3 < 4)))
      ((with_reducible apply TriM.back); (case p => (repeat first | exact Pulls.nil | (apply Pulls.cons; repeat first | with_reducible exact Pull.head | apply Pull.tail))))
      ((with_reducible apply TriM.nil); (case hr => kernel_rfl); (try dsimp only [List.cons_append, List.nil_append]))
      ((with_reducible refine Tri.blockN (Tri.thenN (Tri.region ?_))); (with_reducible apply Tri.op); rfl; (with_reducible apply o_move); rfl; rfl; (with_reducible apply Tri.op); rfl; (with_reducible apply o_add64); rfl; rfl; rfl; (omega); (with_reducible apply Tri.op); rfl; (with_reducible apply o_assign); rfl; rfl; (with_reducible refine Tri.nil (Tri.thenN ?_)))
      refine Tri.exJoin (e := 103) (size := 8) (v := .slice A2 _ a2) (by (repeat first | with_reducible exact Pull.head | apply Pull.tail)) (by (repeat first | with_reducible exact Pull.head | apply Pull.tail)) ?_
      refine Tri.exJoin (e := 101) (size := 2) (v := .slice B2 _ b2) (by (repeat first | with_reducible exact Pull.head | apply Pull.tail)) (by (repeat first | with_reducible exact Pull.head | apply Pull.tail)) ?_
      refine Tri.exJoin (e := 3) (size := 1) (v := .slice C2 _ c2) (by (repeat first | with_reducible exact Pull.head | apply Pull.tail)) (by (repeat first | with_reducible exact Pull.head | apply Pull.tail)) ?_
      refine Tri.imp (A := exM (hp w) _) (B := exM (hp w) [(.slice A2 (E ++ E).length a2, (E ++ E).length, EL (E ++ E)), (.slice B2 (K ++ K).length b2, (K ++ K).length, KL (K ++ K)), (.slice C2 (D ++ D).length c2, (D ++ D).length, NL (D ++ D))]) Pull.head (exM_imp (many_two E K D A2 B2 C2 a2 b2 c2 _)) ?_
      ((with_reducible apply Tri.eqA (A := blk b1 _ _) (B := blk b1 26 (ndLL leaf (.slice A2 (E ++ E).length a2) (.slice B2 (K ++ K).length b2) (.slice C2 (D ++ D).length c2)))); (case p => (repeat first | with_reducible exact Pull.head | apply Pull.tail)); (case e => exact blk_two b1 26 leaf E K D A2 B2 C2 a2 b2 c2 _ _ _))
      ((with_reducible apply Tri.seti 5 (((i + 1 : Nat) : Int))); (case h => rfl); (case hi => omega))
      ((with_reducible apply Tri.again (y := ⟨i + 1, A2, a2, B2, b2, C2, c2, E ++ E, K ++ K, D ++ D, hij', lE', lK', lD'⟩)); (case p => ((try dsimp only); (repeat first | exact Pulls.nil | (apply Pulls.cons; repeat first | with_reducible exact Pull.head | apply Pull.tail)))); (case hm => ((try dsimp only); omega)); (try dsimp only))
      (repeat (first | exact trivial | refine And.intro (by rfl) ?_))
  · have sE : E.length ≤ 4194304 := Nat.le_trans hE (bj_le i)
    have sK : K.length ≤ 4194304 := Nat.le_trans hK (bj_le i)
    have sD : D.length ≤ 4194304 := Nat.le_trans hD (bj_le i)
    ((with_reducible refine Tri.exit (Tri.thenE (Tri.thenE (Tri.blockE (Tri.thenN ?_))))))
    ((first | with_reducible apply Tri.seqMeet (α := JT leaf) (Lx := fun _ => [(2, .pointer (some ⟨b1, 0, none⟩))]) (Hx := fun x => [blk b1 26 (ndLL leaf (.slice x.A x.E.length x.a) (.slice x.B x.K.length x.b) (.slice x.C x.D.length x.c)), exM (hp w) [(.slice x.A x.E.length x.a, x.E.length, EL x.E), (.slice x.B x.K.length x.b, x.K.length, KL x.K), (.slice x.C x.D.length x.c, x.D.length, NL x.D)]]) | with_reducible apply TriR.seqMeet (α := JT leaf) (Lx := fun _ => [(2, .pointer (some ⟨b1, 0, none⟩))]) (Hx := fun x => [blk b1 26 (ndLL leaf (.slice x.A x.E.length x.a) (.slice x.B x.K.length x.b) (.slice x.C x.D.length x.c)), exM (hp w) [(.slice x.A x.E.length x.a, x.E.length, EL x.E), (.slice x.B x.K.length x.b, x.K.length, KL x.K), (.slice x.C x.D.length x.c, x.D.length, NL x.D)]])); rotate_left; (rintro ⟨A, a, B, b, C, c, E, Ks, D, hx, hE, hK, hD⟩; (try dsimp only)); rotate_left)
    · cases leaf
      · ((with_reducible refine Tri.seq (Tri.region ?_)); (with_reducible apply Tri.op); rfl; (with_reducible apply o_fieldAddr); rfl; rfl; (with_reducible apply Tri.op); rfl; (with_reducible apply o_load); rfl; (repeat first | with_reducible exact Pull.head | apply Pull.tail); rfl; rfl; (with_reducible refine Tri.nil (Tri.thenN ?_)); (with_reducible apply Tri.condF); rfl; rfl; (with_reducible refine Tri.seq (Tri.region ?_)); (with_reducible apply Tri.op); rfl; (with_reducible apply o_fieldAddr); rfl; rfl; (with_reducible apply Tri.op); rfl; (with_reducible apply o_load); rfl; (repeat first | with_reducible exact Pull.head | apply Pull.tail); rfl; rfl; (with_reducible apply Tri.op); rfl; (with_reducible apply o_len); rfl; rfl; (with_reducible apply Tri.op); rfl; (with_reducible apply o_fieldAddr); rfl; rfl; (with_reducible apply Tri.op); rfl; (with_reducible apply o_load); rfl; (repeat first | with_reducible exact Pull.head | apply Pull.tail); rfl; rfl; (with_reducible apply Tri.op); rfl; (with_reducible apply o_len); rfl; rfl; (with_reducible apply Tri.op); rfl; (with_reducible apply o_min); rfl; rfl; rfl; (with_reducible apply Tri.op); rfl; (with_reducible apply o_assign); rfl; rfl; (with_reducible refine Tri.nil (Tri.thenN ?_)))
        obtain ⟨k, hk⟩ : ∃ k : Nat, k = min K.length D.length := ⟨_, rfl⟩
        have hkK : k ≤ K.length := by omega
        have hkD : k ≤ D.length := by omega
        have lk1 : (cutL K 0 k).length = k - 0 := cutL_len K 0 k hkK
        have ld1 : (cutL D 0 k).length = k - 0 := cutL_len D 0 k hkD
        have okc : okN false ⟨[], cutL K 0 k, cutL D 0 k⟩ := ⟨rfl, by show (cutL K 0 k).length = (cutL D 0 k).length; rw [lk1, ld1]⟩
        have s0 : ([] : List ENT).length ≤ 4194304 := by decide
        have sk1 : (cutL K 0 k).length ≤ 4194304 := by rw [lk1]; omega
        have sd1 : (cutL D 0 k).length ≤ 4194304 := by rw [ld1]; omega
        ((with_reducible apply Tri.seti 6 ((k : Int))); (case h => rfl); (case hi => omega))
        ((with_reducible apply Tri.mixN 9 [exM (hp w) [(.slice A E.length a, E.length, EL E), (.slice B K.length b, K.length, KL K), (.slice C D.length c, D.length, NL D)]] [exM (hp w) [(.slice A E.length a, E.length, EL E), (.slice B K.length b, K.length, KL K), (.slice C D.length c, D.length, NL D)], blk b1 26 (ndLL false (.slice A E.length a) (.slice B K.length b) (.slice C D.length c))]); (case hp => exact ⟨_, rfl⟩); (case p => (repeat first | exact Pulls.nil | (apply Pulls.cons; repeat first | with_reducible exact Pull.head | apply Pull.tail))); (dsimp only [List.length]))
        (((with_reducible apply TriN.q 0); (case ho => rfl); (case hg => rfl); (case hB => kernel_rfl); (case hd => rfl); (case hn => rfl); (case h => (intro F K hK; (try dsimp only [List.cons_append, List.nil_append]); (with_reducible apply o_fieldAddr); rfl; rfl; exact hK))); ((with_reducible apply TriN.q 1); (case ho => rfl); (case hg => rfl); (case hB => kernel_rfl); (case hd => rfl); (case hn => rfl); (case h => (intro F K hK; (try dsimp only [List.cons_append, List.nil_append]); (with_reducible apply o_load); rfl; (repeat first | with_reducible exact Pull.head | apply Pull.tail); rfl; rfl; exact hK))); ((with_reducible apply TriN.q 4); (case ho => rfl); (case hg => rfl); (case hB => kernel_rfl); (case hd => rfl); (case hn => rfl); (case h => (intro F K hK; (try dsimp only [List.cons_append, List.nil_append]); (with_reducible apply o_fieldAddr); rfl; rfl; exact hK))); ((with_reducible apply TriN.q 5); (case ho => rfl); (case hg => rfl); (case hB => kernel_rfl); (case hd => rfl); (case hn => rfl); (case h => (intro F K hK; (try dsimp only [List.cons_append, List.nil_append]); (with_reducible apply o_load); rfl; (repeat first | with_reducible exact Pull.head | apply Pull.tail); rfl; rfl; exact hK))))
        (((with_reducible apply TriN.p 2); (case ho => rfl); (case hg => rfl); (case hB => kernel_rfl); (case hd => rfl); (case hn => rfl); (case h => (intro F K hK; (try dsimp only [List.cons_append, List.nil_append]); (with_reducible apply o_move); rfl; rfl; exact hK))); ((with_reducible apply TriN.p 6); (case ho => rfl); (case hg => rfl); (case hB => kernel_rfl); (case hd => rfl); (case hn => rfl); (case h => (intro F K hK; (try dsimp only [List.cons_append, List.nil_append]); (with_reducible apply o_move); rfl; rfl; exact hK))))
        ((with_reducible apply TriN.p 3); (case ho => rfl); (case hg => rfl); (case hB => kernel_rfl); (case hd => rfl); (case hn => rfl); (case h => (intro F K hK; (try dsimp only [List.cons_append, List.nil_append]); ((with_reducible apply o_slice (lo := 0) (hi := k)); (case hx => rfl); (case hr => exact rdw_exM (by (repeat first | with_reducible exact Pull.head | apply Pull.tail)) (.tail _ (.head _))); (case hol => first | exact fun _ _ => rfl | exact fun a ha => congrArg some (ha.eval rfl)); (case hoh => first | exact fun _ _ => rfl | exact fun a ha => congrArg some (ha.eval rfl)); (case hlo => first | exact .inr ⟨rfl, rfl⟩ | exact .inl ⟨_, rfl⟩ | exact .inl ⟨_, (by congr 2; omega)⟩); (case hhi => first | exact .inr ⟨rfl, rfl⟩ | exact .inl ⟨_, rfl⟩ | exact .inl ⟨_, (by congr 2; omega)⟩); (case hlh => omega); (case hhm => omega); (case hn => rfl)); exact hK)))
        ((with_reducible apply TriN.p 7); (case ho => rfl); (case hg => rfl); (case hB => kernel_rfl); (case hd => rfl); (case hn => rfl); (case h => (intro F K hK; (try dsimp only [List.cons_append, List.nil_append]); ((with_reducible apply o_slice (lo := 0) (hi := k)); (case hx => rfl); (case hr => exact rdw_exM (by (repeat first | with_reducible exact Pull.head | apply Pull.tail)) (.tail _ (.tail _ (.head _)))); (case hol => first | exact fun _ _ => rfl | exact fun a ha => congrArg some (ha.eval rfl)); (case hoh => first | exact fun _ _ => rfl | exact fun a ha => congrArg some (ha.eval rfl)); (case hlo => first | exact .inr ⟨rfl, rfl⟩ | exact .inl ⟨_, rfl⟩ | exact .inl ⟨_, (by congr 2; omega)⟩); (case hhi => first | exact .inr ⟨rfl, rfl⟩ | exact .inl ⟨_, rfl⟩ | exact .inl ⟨_, (by congr 2; omega)⟩); (case hlh => omega); (case hhm => omega); (case hn => rfl)); exact hK)))
        (((with_reducible apply TriN.p 8); (case ho => rfl); (case hg => rfl); (case hB => kernel_rfl); (case hd => rfl); (case hn => rfl); (case h => (intro F K hK; (try dsimp only [List.cons_append, List.nil_append]); (with_reducible apply o_fieldAddr); rfl; rfl; exact hK))))
        ((with_reducible apply TriN.less); (case ho => rfl); (case hg => rfl); (case hr => kernel_rfl); (try dsimp only [List.cons_append, List.nil_append]))
        ((with_reducible apply o_store); (case hx => rfl); (case hy => rfl); (case h1 => rfl); (case p => (repeat first | with_reducible exact Pull.head | apply Pull.tail)); (case hi => exact (by decide : 1 < 4)))
        ((with_reducible apply TriM.back); (case p => (repeat first | exact Pulls.nil | (apply Pulls.cons; repeat first | with_reducible exact Pull.head | apply Pull.tail))))
        ((first | ((with_reducible apply TriM.q 10); rfl; rfl) | ((with_reducible apply TriM.qYes 10); rfl; rfl; rfl; with_reducible rfl)); kernel_rfl; rfl; rfl; (intro F K hK; (with_reducible apply o_fieldAddr); rfl; rfl; exact hK))
        ((with_reducible apply TriM.a 11); (case ho => rfl); (case hg => rfl); (case hr => kernel_rfl); (try dsimp only [List.cons_append, List.nil_append]))
        ((with_reducible apply o_store); (case hx => rfl); (case hy => rfl); (case h1 => rfl); (case p => (repeat first | with_reducible exact Pull.head | apply Pull.tail)); (case hi => exact (by decide : 2 < 4)))
        ((with_reducible apply TriM.back); (case p => (repeat first | exact Pulls.nil | (apply Pulls.cons; repeat first | with_reducible exact Pull.head | apply Pull.tail))))
        ((first | ((with_reducible apply TriM.q 12); rfl; rfl) | ((with_reducible apply TriM.qYes 12); rfl; rfl; rfl; with_reducible rfl)); kernel_rfl; rfl; rfl; (intro F K hK; (with_reducible apply o_fieldAddr); rfl; rfl; exact hK))
        ((with_reducible apply TriM.a 13); (case ho => rfl); (case hg => rfl); (case hr => kernel_rfl); (try dsimp only [List.cons_append, List.nil_append]))
        ((with_reducible apply o_store); (case hx => rfl); (case hy => rfl); (case h1 => rfl); (case p => (repeat first | with_reducible exact Pull.head | apply Pull.tail)); (case hi => exact (by decide : 3 < 4)))
        ((with_reducible apply TriM.back); (case p => (repeat first | exact Pulls.nil | (apply Pulls.cons; repeat first | with_reducible exact Pull.head | apply Pull.tail))))
        ((with_reducible apply TriM.nil); (case hr => kernel_rfl); (try dsimp only [List.cons_append, List.nil_append]))
        ((with_reducible refine Tri.thenN ?_))
        refine Tri.imp (A := exM (hp w) _) (B := exM (hp w) [(.slice none ([] : List ENT).length 0, ([] : List ENT).length, EL []), (.slice (if b = 0 then B else B.map (·.add (0 * 2))) (cutL K 0 k).length (b - 0), (cutL K 0 k).length, KL (cutL K 0 k)), (.slice (if c = 0 then C else C.map (·.add (0 * 1))) (cutL D 0 k).length (c - 0), (cutL D 0 k).length, NL (cutL D 0 k))]) (by (repeat first | with_reducible exact Pull.head | apply Pull.tail)) (exM_imp (many_cut E K D A B C a b c k hkK hkD)) ?_
        ((with_reducible apply Tri.eqA (A := blk b1 _ _) (B := blk b1 26 (ndLL false (.slice none ([] : List ENT).length 0) (.slice (if b = 0 then B else B.map (·.add (0 * 2))) (cutL K 0 k).length (b - 0)) (.slice (if c = 0 then C else C.map (·.add (0 * 1))) (cutL D 0 k).length (c - 0))))); (case p => (repeat first | with_reducible exact Pull.head | apply Pull.tail)); (case e => (rw [lk1, ld1]; rfl)))
        ((with_reducible apply Tri.reach (y := ⟨none, 0, (if b = 0 then B else B.map (·.add (0 * 2))), b - 0, (if c = 0 then C else C.map (·.add (0 * 1))), c - 0, [], cutL K 0 k, cutL D 0 k, okc, s0, sk1, sd1⟩)); (case hL => ((try dsimp only); (repeat (first | exact trivial | refine And.intro (by rfl) ?_)))); (case p => ((try dsimp only); (repeat first | exact Pulls.nil | (apply Pulls.cons; repeat first | with_reducible exact Pull.head | apply Pull.tail)))))
      · have okl : okN true ⟨E, [], []⟩ := ⟨rfl, rfl⟩
        have s0k : ([] : List KEY).length ≤ 4194304 := by decide
        have s0d : ([] : List Int).length ≤ 4194304 := by decide
        ((with_reducible refine Tri.seq (Tri.region ?_)); (with_reducible apply Tri.op); rfl; (with_reducible apply o_fieldAddr); rfl; rfl; (with_reducible apply Tri.op); rfl; (with_reducible apply o_load); rfl; (repeat first | with_reducible exact Pull.head | apply Pull.tail); rfl; rfl; (with_reducible refine Tri.nil (Tri.thenN ?_)); (with_reducible apply Tri.condT); rfl; rfl; (with_reducible refine Tri.region ?_); (with_reducible apply Tri.op); rfl; (with_reducible apply o_fieldAddr); rfl; rfl; (with_reducible apply Tri.op); rfl; (with_reducible apply o_store); rfl; rfl; rfl; (repeat first | with_reducible exact Pull.head | apply Pull.tail); (exact Nat.le_of_ble_eq_true rfl); (with_reducible apply Tri.op); rfl; (with_reducible apply o_fieldAddr); rfl; rfl; (with_reducible apply Tri.op); rfl; (with_reducible apply o_store); rfl; rfl; rfl; (repeat first | with_reducible exact Pull.head | apply Pull.tail); (exact Nat.le_of_ble_eq_true rfl); (with_reducible refine Tri.nil (Tri.thenN ?_)))
        skip
        refine Tri.imp (A := exM (hp w) _) (B := exM (hp w) [(.slice A E.length a, E.length, EL E), (.slice none ([] : List KEY).length 0, ([] : List KEY).length, KL []), (.slice none ([] : List Int).length 0, ([] : List Int).length, NL [])]) (by (repeat first | with_reducible exact Pull.head | apply Pull.tail)) (exM_imp (many_leaf E K D A B C a b c)) ?_
        ((with_reducible apply Tri.eqA (A := blk b1 _ _) (B := blk b1 26 (ndLL true (.slice A E.length a) (.slice none ([] : List KEY).length 0) (.slice none ([] : List Int).length 0)))); (case p => (repeat first | with_reducible exact Pull.head | apply Pull.tail)); (case e => rfl))
        ((with_reducible apply Tri.reach (y := ⟨A, a, none, 0, none, 0, E, [], [], okl, sE, s0k, s0d⟩)); (case hL => ((try dsimp only); (repeat (first | exact trivial | refine And.intro (by rfl) ?_)))); (case p => ((try dsimp only); (repeat first | exact Pulls.nil | (apply Pulls.cons; repeat first | with_reducible exact Pull.head | apply Pull.tail)))))
    have bE : E.length * 64 ≤ 140737488355328 := by omega
    have bK : Ks.length * 16 ≤ 140737488355328 := by omega
    have bD : D.length * 8 ≤ 140737488355328 := by omega
    obtain ⟨N, hNd⟩ : ∃ N, N = szN leaf ⟨E, Ks, D⟩ := ⟨_, rfl⟩
    have hN : szN leaf ⟨E, Ks, D⟩ ≤ N := by omega
    have hN2 : szN leaf ⟨E, Ks, D⟩ ≤ 4500000 := by cases leaf <;> simp only [szN] <;> simp <;> omega
    ((with_reducible refine Tri.seq (Tri.region ?_)); (with_reducible apply Tri.op); rfl)
    ((with_reducible apply o_loadAll (cs := ndLL leaf (.slice A E.length a) (.slice B Ks.length b) (.slice C D.length c))); (case hx => rfl); (case p => exact (by (repeat first | with_reducible exact Pull.head | apply Pull.tail))); (case hl => rfl); (case hn => rfl))
    ((with_reducible apply Tri.op); rfl)
    ((with_reducible apply o_callR (hs := law12_To leaf (.slice A E.length a) (.slice B Ks.length b) (.slice C D.length c) E Ks D bE bK bD)); (case hargs => (repeat first | exact evs.nil | (apply evs.cons; case a => rfl))); (case hpre => exact fun w' hw' => ⟨rdw_exM (by (repeat first | with_reducible exact Pull.head | apply Pull.tail)) (.head _) w' hw', rdw_exM (by (repeat first | with_reducible exact Pull.head | apply Pull.tail)) (.tail _ (.head _)) w' hw', rdw_exM (by (repeat first | with_reducible exact Pull.head | apply Pull.tail)) (.tail _ (.tail _ (.head _))) w' hw'⟩); (case hn => rfl))
    rintro r1 H1 ⟨A1, a1, B1, b1', C1, c1, rfl, rfl⟩
    (try dsimp only [List.cons_append, List.nil_append])
    ((with_reducible apply Tri.op); rfl)
    ((with_reducible apply o_callR (hs := node_Split leaf N ⟨E, Ks, D⟩ (.slice A1 E.length a1) (.slice B1 Ks.length b1') (.slice C1 D.length c1) hx hN hN2)); (case hargs => (repeat first | exact evs.nil | (apply evs.cons; case a => rfl))); (case hpre => exact fun w' hw' => ⟨rdw_own (v := .slice A1 E.length a1) (by (repeat first | with_reducible exact Pull.head | apply Pull.tail)) w' hw', rdw_own (v := .slice B1 Ks.length b1') (by (repeat first | with_reducible exact Pull.head | apply Pull.tail)) w' hw', rdw_own (v := .slice C1 D.length c1) (by (repeat first | with_reducible exact Pull.head | apply Pull.tail)) w' hw'⟩); (case hn => rfl))
    rintro r2 H2 ⟨VS, hVS, hW, rfl⟩
    (try dsimp only [List.cons_append, List.nil_append])
    ((with_reducible apply Tri.op); rfl; (with_reducible apply o_assign); rfl; rfl; (with_reducible refine Tri.nil (Tri.thenN (Tri.seq (Tri.region ?_)))); (with_reducible apply Tri.op); rfl; (with_reducible apply o_fieldAddr); rfl; rfl; (with_reducible apply Tri.op); rfl; (with_reducible apply o_load); rfl; (repeat first | with_reducible exact Pull.head | apply Pull.tail); rfl; rfl; (with_reducible apply Tri.op); rfl)
    (refine Tri.shape (e := 33) (size := 4) (v := r2) (by (repeat first | with_reducible exact Pull.head | apply Pull.tail)) ?_; rintro ⟨AR, cr, rfl⟩)
    ((with_reducible apply o_build (ys := ndLL leaf (.slice none 0 0) (.slice none 0 0) (.slice none 0 0))); (case hp => (repeat first | exact pev.nil | (apply pev.cons; case a => rfl))); (case hf => rfl); (case hn => rfl))
    ((with_reducible apply Tri.op); rfl)
    ((with_reducible apply o_alloc); (case hn => rfl); intro b3)
    ((with_reducible apply Tri.op); rfl)
    ((with_reducible apply o_storeAll (ys := ndLL leaf (.slice none 0 0) (.slice none 0 0) (.slice none 0 0))); (case hx => rfl); (case hy => rfl); (case p => (repeat first | with_reducible exact Pull.head | apply Pull.tail)); (case hl => rfl); (case hc => rfl); (case h1 => exact ndLL_one leaf none none none 0 0 0 0 0 0))
    ((with_reducible refine Tri.nil (Tri.thenN (Tri.seq (Tri.seq (Tri.region ?_))))); (with_reducible apply Tri.op); rfl; (with_reducible apply o_assign); rfl; rfl; (with_reducible refine Tri.nil (Tri.thenN (Tri.block ?_))))
    have hjoin := splN_join (N + 1) ⟨E, Ks, D⟩ hx (by omega)
    have hparts := splN_sz (N + 1) ⟨E, Ks, D⟩ hx
    have hone := splN_one (leaf := leaf) N ⟨E, Ks, D⟩
    have hlen := splN_len (leaf := leaf) (N + 1) ⟨E, Ks, D⟩
    generalize splN leaf (N + 1) ⟨E, Ks, D⟩ = xs at hVS hjoin hparts hone hlen ⊢
    (with_reducible apply Tri.noneM)
    ((with_reducible apply Tri.eqA (A := manyRd []) (B := manyRd [])); (case p => (repeat first | with_reducible exact Pull.head | apply Pull.tail)); (case e => rfl))
    refine Tri.imp (A := manyRd []) (B := manyRd [(.slice none (joinN (xs.take 0)).E.length 0, (joinN (xs.take 0)).E.length, EL (joinN (xs.take 0)).E), (.slice none (joinN (xs.take 0)).K.length 0, (joinN (xs.take 0)).K.length, KL (joinN (xs.take 0)).K), (.slice none (joinN (xs.take 0)).D.length 0, (joinN (xs.take 0)).D.length, NL (joinN (xs.take 0)).D)]) (by (repeat first | with_reducible exact Pull.head | apply Pull.tail)) (many_nil xs) ?_
    ((with_reducible apply Tri.eqA (A := blk b3 _ _) (B := blk b3 33 (ndLL leaf (.slice none (joinN (xs.take 0)).E.length 0) (.slice none (joinN (xs.take 0)).K.length 0) (.slice none (joinN (xs.take 0)).D.length 0)))); (case p => (repeat first | with_reducible exact Pull.head | apply Pull.tail)); (case e => rfl))
    ((first | with_reducible apply Tri.loop (α := Σ' (i : Nat) (_ : Option Addr) (_ : Nat) (_ : Option Addr) (_ : Nat) (_ : Option Addr) (_ : Nat), i ≤ xs.length) (m := fun x => xs.length - x.1) (Lx := fun x => [(2, .pointer (some ⟨b1, 0, none⟩)), (7, .slice AR VS.length cr), (8, .pointer (some ⟨b3, 0, none⟩)), (9, .int .i64 (x.1 : Int))]) (Hx := fun x => [blk b1 26 (ndLL leaf (.slice A E.length a) (.slice B Ks.length b) (.slice C D.length c)), exM (hp w) [(.slice A E.length a, E.length, EL E), (.slice B Ks.length b, Ks.length, KL Ks), (.slice C D.length c, D.length, NL D)], own 33 4 (.slice AR VS.length cr) VS.length (NDL leaf VS), manyRd (RDS VS xs), blk b3 33 (ndLL leaf (.slice x.2.1 (joinN (xs.take x.1)).E.length x.2.2.1) (.slice x.2.2.2.1 (joinN (xs.take x.1)).K.length x.2.2.2.2.1) (.slice x.2.2.2.2.2.1 (joinN (xs.take x.1)).D.length x.2.2.2.2.2.2.1)), manyRd [(.slice x.2.1 (joinN (xs.take x.1)).E.length x.2.2.1, (joinN (xs.take x.1)).E.length, EL (joinN (xs.take x.1)).E), (.slice x.2.2.2.1 (joinN (xs.take x.1)).K.length x.2.2.2.2.1, (joinN (xs.take x.1)).K.length, KL (joinN (xs.take x.1)).K), (.slice x.2.2.2.2.2.1 (joinN (xs.take x.1)).D.length x.2.2.2.2.2.2.1, (joinN (xs.take x.1)).D.length, NL (joinN (xs.take x.1)).D)]]) (x0 := ⟨0, none, 0, none, 0, none, 0, Nat.zero_le _⟩) | with_reducible apply TriR.loop (α := Σ' (i : Nat) (_ : Option Addr) (_ : Nat) (_ : Option Addr) (_ : Nat) (_ : Option Addr) (_ : Nat), i ≤ xs.length) (m := fun x => xs.length - x.1) (Lx := fun x => [(2, .pointer (some ⟨b1, 0, none⟩)), (7, .slice AR VS.length cr), (8, .pointer (some ⟨b3, 0, none⟩)), (9, .int .i64 (x.1 : Int))]) (Hx := fun x => [blk b1 26 (ndLL leaf (.slice A E.length a) (.slice B Ks.length b) (.slice C D.length c)), exM (hp w) [(.slice A E.length a, E.length, EL E), (.slice B Ks.length b, Ks.length, KL Ks), (.slice C D.length c, D.length, NL D)], own 33 4 (.slice AR VS.length cr) VS.length (NDL leaf VS), manyRd (RDS VS xs), blk b3 33 (ndLL leaf (.slice x.2.1 (joinN (xs.take x.1)).E.length x.2.2.1) (.slice x.2.2.2.1 (joinN (xs.take x.1)).K.length x.2.2.2.2.1) (.slice x.2.2.2.2.2.1 (joinN (xs.take x.1)).D.length x.2.2.2.2.2.2.1)), manyRd [(.slice x.2.1 (joinN (xs.take x.1)).E.length x.2.2.1, (joinN (xs.take x.1)).E.length, EL (joinN (xs.take x.1)).E), (.slice x.2.2.2.1 (joinN (xs.take x.1)).K.length x.2.2.2.2.1, (joinN (xs.take x.1)).K.length, KL (joinN (xs.take x.1)).K), (.slice x.2.2.2.2.2.1 (joinN (xs.take x.1)).D.length x.2.2.2.2.2.2.1, (joinN (xs.take x.1)).D.length, NL (joinN (xs.take x.1)).D)]]) (x0 := ⟨0, none, 0, none, 0, none, 0, Nat.zero_le _⟩)); (case hL => ((try dsimp only); (repeat (first | exact trivial | refine And.intro (by rfl) ?_)))); (case hH => ((try dsimp only); apply St.all; (repeat first | exact Pulls.nil | (apply Pulls.cons; repeat first | with_reducible exact Pull.head | apply Pull.tail))))); (rintro ⟨i, A2, a2, B2, b2, C2, c2, hi⟩ mx hmx; (try dsimp only at hmx ⊢))
    ((with_reducible refine Tri.seq (Tri.seq (Tri.region ?_))); (with_reducible apply Tri.op); rfl; (with_reducible apply o_move); rfl; rfl; (with_reducible apply Tri.op); rfl; (with_reducible apply o_move); rfl; rfl; (with_reducible apply Tri.op); rfl; (with_reducible apply o_len); rfl; rfl; (with_reducible apply Tri.op); rfl; (with_reducible apply o_lss); rfl; rfl; rfl; (with_reducible refine Tri.nil (Tri.thenN ?_)))
    ((first | with_reducible apply Tri.condD | with_reducible apply TriR.condD); (case hc => rfl); (all_goals intro hc))
    · have hix : i < xs.length := by omega
      obtain ⟨y, hy⟩ : ∃ y, xs[i]? = some y := ⟨_, List.getElem?_eq_getElem hix⟩
      obtain ⟨v, hv⟩ : ∃ v, VS[i]? = some v := ⟨_, List.getElem?_eq_getElem (by omega : i < VS.length)⟩
      obtain ⟨hyo, hs1, hs2, hs3⟩ := hparts y (List.mem_of_getElem? hy)
      have hiv : i < VS.length := by omega
      have hsy : sizeN leaf y.E y.D = szN leaf y := rfl
      obtain ⟨s, hs⟩ : ∃ s, s = szN leaf y := ⟨_, rfl⟩
      rw [← hs] at hs1 hs2 hs3 hsy
      ((with_reducible refine Tri.skip (Tri.thenN (Tri.seq (Tri.block (Tri.seq (Tri.region ?_)))))); (with_reducible apply Tri.op); rfl; (with_reducible apply o_move); rfl; rfl; (with_reducible apply Tri.op); rfl; (with_reducible apply o_move); rfl; rfl; (with_reducible apply Tri.op); rfl)
      ((with_reducible apply o_ixOwn (j := i)); (case hx => rfl); (case hy => rfl); (case p => (repeat first | with_reducible exact Pull.head | apply Pull.tail)); (case hj => rfl); (case hlt => exact hiv); (case hn => rfl))
      ((with_reducible apply Tri.op); rfl)
      ((with_reducible apply o_loadAggOwn); (case hx => rfl); (case p => (repeat first | with_reducible exact Pull.head | apply Pull.tail)); (case hv => exact NDL_at VS i v hv); (case hl => rfl); (case hn => rfl))
      ((with_reducible apply Tri.op); rfl)
      ((with_reducible apply o_callV (hs := node_Size leaf v.1 v.2.1 v.2.2 y.E y.K y.D)); (case hargs => (repeat first | exact evs.nil | (apply evs.cons; case a => rfl))); (case hpre => exact ndR_at (by (repeat first | with_reducible exact Pull.head | apply Pull.tail)) hv hy); (case hn => rfl))
      rw [hsy]
      have hbig : 0 < i → mostN leaf < szN leaf ⟨E, Ks, D⟩ := fun h => by
        rcases Nat.lt_or_ge (mostN leaf) (szN leaf ⟨E, Ks, D⟩) with q | q
        · exact q
        · have := hone q; omega
      have htk := joinN_take hy
      have hup := up_take hjoin hx (i + 1)
      obtain ⟨X, hX⟩ : ∃ X, X = joinN (xs.take i) := ⟨_, rfl⟩
      obtain ⟨Y, hY⟩ : ∃ Y, Y = joinN (xs.take (i + 1)) := ⟨_, rfl⟩
      rw [← hX, ← hY] at htk
      rw [← hY] at hup
      rw [← hX]
      ((with_reducible apply Tri.op); rfl; (with_reducible apply o_assign); rfl; rfl; (with_reducible refine Tri.nil (Tri.thenN ?_)))
      ((first | with_reducible apply Tri.seqMeet (α := Unit) (Lx := fun _ => [(2, .pointer (some ⟨b1, 0, none⟩)), (7, .slice AR VS.length cr), (8, .pointer (some ⟨b3, 0, none⟩)), (9, .int .i64 (i : Int)), (121, .bool false)]) (Hx := fun _ => [blk b1 26 (ndLL leaf (.slice A E.length a) (.slice B Ks.length b) (.slice C D.length c)), exM (hp w) [(.slice A E.length a, E.length, EL E), (.slice B Ks.length b, Ks.length, KL Ks), (.slice C D.length c, D.length, NL D)], own 33 4 (.slice AR VS.length cr) VS.length (NDL leaf VS), manyRd (RDS VS xs), blk b3 33 (ndLL leaf (.slice A2 X.E.length a2) (.slice B2 X.K.length b2) (.slice C2 X.D.length c2)), manyRd [(.slice A2 X.E.length a2, X.E.length, EL X.E), (.slice B2 X.K.length b2, X.K.length, KL X.K), (.slice C2 X.D.length c2, X.D.length, NL X.D)]]) | with_reducible apply TriR.seqMeet (α := Unit) (Lx := fun _ => [(2, .pointer (some ⟨b1, 0, none⟩)), (7, .slice AR VS.length cr), (8, .pointer (some ⟨b3, 0, none⟩)), (9, .int .i64 (i : Int)), (121, .bool false)]) (Hx := fun _ => [blk b1 26 (ndLL leaf (.slice A E.length a) (.slice B Ks.length b) (.slice C D.length c)), exM (hp w) [(.slice A E.length a, E.length, EL E), (.slice B Ks.length b, Ks.length, KL Ks), (.slice C D.length c, D.length, NL D)], own 33 4 (.slice AR VS.length cr) VS.length (NDL leaf VS), manyRd (RDS VS xs), blk b3 33 (ndLL leaf (.slice A2 X.E.length a2) (.slice B2 X.K.length b2) (.slice C2 X.D.length c2)), manyRd [(.slice A2 X.E.length a2, X.E.length, EL X.E), (.slice B2 X.K.length b2, X.K.length, KL X.K), (.slice C2 X.D.length c2, X.D.length, NL X.D)]])); rotate_left; (rintro ⟨⟩; (try dsimp only)); rotate_left)
      · cases leaf
        · have hm : mostN false = 16 := rfl
          rw [hm] at hs2 hs3 hbig
          ((with_reducible refine Tri.seq (Tri.region ?_)); (with_reducible apply Tri.op); rfl; (with_reducible apply o_move); rfl; rfl; (with_reducible apply Tri.op); rfl; (with_reducible apply o_lss); rfl; rfl; rfl; (with_reducible apply Tri.op); rfl; (with_reducible apply o_move); rfl; rfl)
          ((with_reducible apply Tri.setb 84 (false)); (case h => rfl); (case hi => exact decide_eq_false (by omega)))
          ((with_reducible apply Tri.opYes); rfl; rfl; rfl; (with_reducible apply o_fieldAddr); rfl; rfl; (with_reducible apply Tri.opYes); rfl; rfl; rfl; (with_reducible apply o_load); rfl; (repeat first | with_reducible exact Pull.head | apply Pull.tail); rfl; rfl; (with_reducible apply Tri.opYes); rfl; rfl; rfl; (with_reducible apply o_move); rfl; rfl; (iterate 2 (with_reducible apply Tri.opNo (c := false)); (iterate 6 rfl)); (with_reducible apply Tri.opYes); rfl; rfl; rfl; (with_reducible apply o_pickF); (iterate 4 rfl); (with_reducible apply Tri.op); rfl; (with_reducible apply o_pickF); (iterate 4 rfl); (with_reducible apply Tri.op); rfl; (with_reducible apply o_move); rfl; rfl; (with_reducible apply Tri.opYes); rfl; rfl; rfl; (with_reducible apply o_fieldAddr); rfl; rfl; (with_reducible apply Tri.opYes); rfl; rfl; rfl; (with_reducible apply o_load); rfl; (repeat first | with_reducible exact Pull.head | apply Pull.tail); rfl; rfl; (with_reducible apply Tri.opYes); rfl; rfl; rfl; (with_reducible apply o_not); rfl; rfl; (with_reducible apply Tri.opYes); rfl; rfl; rfl; (with_reducible apply o_move); rfl; rfl)
          ((with_reducible apply Tri.setb 96 (true)); (case h => rfl); (case hi => rfl))
          ((with_reducible apply Tri.opYes); rfl; rfl; rfl; (with_reducible apply o_move); rfl; rfl; (with_reducible apply Tri.opYes); rfl; rfl; rfl; (with_reducible apply o_gtr); rfl; rfl; rfl; (with_reducible apply Tri.opYes); rfl; rfl; rfl; (with_reducible apply o_pickT); (iterate 4 rfl); (with_reducible apply Tri.op); rfl; (with_reducible apply o_pickF); (iterate 4 rfl); (with_reducible apply Tri.op); rfl; (with_reducible apply o_move); rfl; rfl)
          ((with_reducible apply Tri.setb 101 (false)); (case h => rfl); (case hi => exact decide_eq_false (by omega)))
          ((with_reducible apply Tri.opYes); rfl; rfl; rfl; (with_reducible apply o_move); rfl; rfl; (with_reducible apply Tri.opYes); rfl; rfl; rfl; (with_reducible apply o_gtr); rfl; rfl; rfl; (with_reducible apply Tri.opYes); rfl; rfl; rfl; (with_reducible apply o_move); rfl; rfl)
          rcases Nat.eq_zero_or_pos i with h0 | h0
          · ((with_reducible apply Tri.setb 104 (false)); (case h => rfl); (case hi => exact decide_eq_false (by omega)))
            ((iterate 3 (with_reducible apply Tri.opNo (c := false)); (iterate 6 rfl)); (iterate 2 (with_reducible apply Tri.opNoU); (iterate 4 rfl)); (iterate 2 (with_reducible apply Tri.opNo (c := false)); (iterate 6 rfl)); (iterate 7 (with_reducible apply Tri.opNoU); (iterate 4 rfl)); (with_reducible apply Tri.opNo (c := false)); (iterate 6 rfl); (with_reducible apply Tri.opYes); rfl; rfl; rfl; (with_reducible apply o_pickF); (iterate 4 rfl); (with_reducible apply Tri.op); rfl; (with_reducible apply o_pickF); (iterate 4 rfl); (with_reducible refine Tri.nil (Tri.thenN ?_)); (with_reducible apply Tri.condF); rfl; rfl; (with_reducible refine Tri.skip (Tri.thenN ?_)))
            ((with_reducible apply Tri.reach (y := ())); (case hL => ((try dsimp only); (repeat (first | exact trivial | refine And.intro (by rfl) ?_)))); (case p => ((try dsimp only); (repeat first | exact Pulls.nil | (apply Pulls.cons; repeat first | with_reducible exact Pull.head | apply Pull.tail)))))
          · have h8 := hs3 (hbig h0)
            ((with_reducible apply Tri.setb 104 (true)); (case h => rfl); (case hi => exact decide_eq_true (by omega)))
            ((with_reducible apply Tri.opYes); rfl; rfl; rfl; (with_reducible apply o_fieldAddr); rfl; rfl; (with_reducible apply Tri.opYes); rfl; rfl; rfl; (with_reducible apply o_load); rfl; (repeat first | with_reducible exact Pull.head | apply Pull.tail); rfl; rfl; (with_reducible apply Tri.opYes); rfl; rfl; rfl; (with_reducible apply o_move); rfl; rfl; (iterate 2 (with_reducible apply Tri.opNo (c := false)); (iterate 6 rfl)); (with_reducible apply Tri.opYes); rfl; rfl; rfl; (with_reducible apply o_pickF); (iterate 4 rfl); (with_reducible apply Tri.opYes); rfl; rfl; rfl; (with_reducible apply o_move); rfl; rfl; (with_reducible apply Tri.opYes); rfl; rfl; rfl; (with_reducible apply o_fieldAddr); rfl; rfl; (with_reducible apply Tri.opYes); rfl; rfl; rfl; (with_reducible apply o_load); rfl; (repeat first | with_reducible exact Pull.head | apply Pull.tail); rfl; rfl; (with_reducible apply Tri.opYes); rfl; rfl; rfl; (with_reducible apply o_not); rfl; rfl; (with_reducible apply Tri.opYes); rfl; rfl; rfl; (with_reducible apply o_move); rfl; rfl)
            ((with_reducible apply Tri.setb 115 (true)); (case h => rfl); (case hi => rfl))
            ((with_reducible apply Tri.opYes); rfl; rfl; rfl; (with_reducible apply o_move); rfl; rfl; (with_reducible apply Tri.opYes); rfl; rfl; rfl; (with_reducible apply o_lss); rfl; rfl; rfl; (with_reducible apply Tri.opYes); rfl; rfl; rfl; (with_reducible apply o_pickT); (iterate 4 rfl); (with_reducible apply Tri.opYes); rfl; rfl; rfl; (with_reducible apply o_pickF); (iterate 4 rfl); (with_reducible apply Tri.opYes); rfl; rfl; rfl; (with_reducible apply o_pickT); (iterate 4 rfl); (with_reducible apply Tri.op); rfl; (with_reducible apply o_pickF); (iterate 4 rfl); (with_reducible refine Tri.nil (Tri.thenN ?_)))
            ((with_reducible apply Tri.setb 121 (false)); (case h => rfl); (case hi => exact decide_eq_false (by omega)))
            ((with_reducible apply Tri.condF); rfl; rfl; (with_reducible refine Tri.skip (Tri.thenN ?_)))
            ((with_reducible apply Tri.reach (y := ())); (case hL => ((try dsimp only); (repeat (first | exact trivial | refine And.intro (by rfl) ?_)))); (case p => ((try dsimp only); (repeat first | exact Pulls.nil | (apply Pulls.cons; repeat first | with_reducible exact Pull.head | apply Pull.tail)))))
        · have hm : mostN true = 7 := rfl
          rw [hm] at hs2 hs3 hbig
          ((with_reducible refine Tri.seq (Tri.region ?_)); (with_reducible apply Tri.op); rfl; (with_reducible apply o_move); rfl; rfl; (with_reducible apply Tri.op); rfl; (with_reducible apply o_lss); rfl; rfl; rfl; (with_reducible apply Tri.op); rfl; (with_reducible apply o_move); rfl; rfl)
          ((with_reducible apply Tri.setb 84 (false)); (case h => rfl); (case hi => exact decide_eq_false (by omega)))
          ((with_reducible apply Tri.opYes); rfl; rfl; rfl; (with_reducible apply o_fieldAddr); rfl; rfl; (with_reducible apply Tri.opYes); rfl; rfl; rfl; (with_reducible apply o_load); rfl; (repeat first | with_reducible exact Pull.head | apply Pull.tail); rfl; rfl; (with_reducible apply Tri.opYes); rfl; rfl; rfl; (with_reducible apply o_move); rfl; rfl; (with_reducible apply Tri.opYes); rfl; rfl; rfl; (with_reducible apply o_move); rfl; rfl; (with_reducible apply Tri.opYes); rfl; rfl; rfl; (with_reducible apply o_gtr); rfl; rfl; rfl; (with_reducible apply Tri.opYes); rfl; rfl; rfl; (with_reducible apply o_pickT); (iterate 4 rfl); (with_reducible apply Tri.op); rfl; (with_reducible apply o_pickF); (iterate 4 rfl); (with_reducible apply Tri.op); rfl; (with_reducible apply o_move); rfl; rfl)
          ((with_reducible apply Tri.setb 92 (false)); (case h => rfl); (case hi => exact decide_eq_false (by omega)))
          ((with_reducible apply Tri.opYes); rfl; rfl; rfl; (with_reducible apply o_fieldAddr); rfl; rfl; (with_reducible apply Tri.opYes); rfl; rfl; rfl; (with_reducible apply o_load); rfl; (repeat first | with_reducible exact Pull.head | apply Pull.tail); rfl; rfl; (with_reducible apply Tri.opYes); rfl; rfl; rfl; (with_reducible apply o_not); rfl; rfl; (with_reducible apply Tri.opYes); rfl; rfl; rfl; (with_reducible apply o_move); rfl; rfl)
          ((with_reducible apply Tri.setb 96 (false)); (case h => rfl); (case hi => rfl))
          ((iterate 2 (with_reducible apply Tri.opNo (c := false)); (iterate 6 rfl)); (with_reducible apply Tri.opYes); rfl; rfl; rfl; (with_reducible apply o_pickF); (iterate 4 rfl); (with_reducible apply Tri.op); rfl; (with_reducible apply o_pickF); (iterate 4 rfl); (with_reducible apply Tri.op); rfl; (with_reducible apply o_move); rfl; rfl; (with_reducible apply Tri.opYes); rfl; rfl; rfl; (with_reducible apply o_move); rfl; rfl; (with_reducible apply Tri.opYes); rfl; rfl; rfl; (with_reducible apply o_gtr); rfl; rfl; rfl; (with_reducible apply Tri.opYes); rfl; rfl; rfl; (with_reducible apply o_move); rfl; rfl)
          rcases Nat.eq_zero_or_pos i with h0 | h0
          · ((with_reducible apply Tri.setb 104 (false)); (case h => rfl); (case hi => exact decide_eq_false (by omega)))
            ((iterate 3 (with_reducible apply Tri.opNo (c := false)); (iterate 6 rfl)); (iterate 2 (with_reducible apply Tri.opNoU); (iterate 4 rfl)); (iterate 2 (with_reducible apply Tri.opNo (c := false)); (iterate 6 rfl)); (iterate 7 (with_reducible apply Tri.opNoU); (iterate 4 rfl)); (with_reducible apply Tri.opNo (c := false)); (iterate 6 rfl); (with_reducible apply Tri.opYes); rfl; rfl; rfl; (with_reducible apply o_pickF); (iterate 4 rfl); (with_reducible apply Tri.op); rfl; (with_reducible apply o_pickF); (iterate 4 rfl); (with_reducible refine Tri.nil (Tri.thenN ?_)); (with_reducible apply Tri.condF); rfl; rfl; (with_reducible refine Tri.skip (Tri.thenN ?_)))
            ((with_reducible apply Tri.reach (y := ())); (case hL => ((try dsimp only); (repeat (first | exact trivial | refine And.intro (by rfl) ?_)))); (case p => ((try dsimp only); (repeat first | exact Pulls.nil | (apply Pulls.cons; repeat first | with_reducible exact Pull.head | apply Pull.tail)))))
          · have h8 := hs3 (hbig h0)
            ((with_reducible apply Tri.setb 104 (true)); (case h => rfl); (case hi => exact decide_eq_true (by omega)))
            ((with_reducible apply Tri.opYes); rfl; rfl; rfl; (with_reducible apply o_fieldAddr); rfl; rfl; (with_reducible apply Tri.opYes); rfl; rfl; rfl; (with_reducible apply o_load); rfl; (repeat first | with_reducible exact Pull.head | apply Pull.tail); rfl; rfl; (with_reducible apply Tri.opYes); rfl; rfl; rfl; (with_reducible apply o_move); rfl; rfl; (with_reducible apply Tri.opYes); rfl; rfl; rfl; (with_reducible apply o_move); rfl; rfl; (with_reducible apply Tri.opYes); rfl; rfl; rfl; (with_reducible apply o_lss); rfl; rfl; rfl; (with_reducible apply Tri.opYes); rfl; rfl; rfl; (with_reducible apply o_pickT); (iterate 4 rfl); (with_reducible apply Tri.opYes); rfl; rfl; rfl; (with_reducible apply o_move); rfl; rfl)
            ((with_reducible apply Tri.setb 111 (false)); (case h => rfl); (case hi => exact decide_eq_false (by omega)))
            ((with_reducible apply Tri.opYes); rfl; rfl; rfl; (with_reducible apply o_fieldAddr); rfl; rfl; (with_reducible apply Tri.opYes); rfl; rfl; rfl; (with_reducible apply o_load); rfl; (repeat first | with_reducible exact Pull.head | apply Pull.tail); rfl; rfl; (with_reducible apply Tri.opYes); rfl; rfl; rfl; (with_reducible apply o_not); rfl; rfl; (with_reducible apply Tri.opYes); rfl; rfl; rfl; (with_reducible apply o_move); rfl; rfl)
            ((with_reducible apply Tri.setb 115 (false)); (case h => rfl); (case hi => rfl))
            ((iterate 2 (with_reducible apply Tri.opNo (c := false)); (iterate 6 rfl)); (with_reducible apply Tri.opYes); rfl; rfl; rfl; (with_reducible apply o_pickF); (iterate 4 rfl); (with_reducible apply Tri.opYes); rfl; rfl; rfl; (with_reducible apply o_pickF); (iterate 4 rfl); (with_reducible apply Tri.opYes); rfl; rfl; rfl; (with_reducible apply o_pickT); (iterate 4 rfl); (with_reducible apply Tri.op); rfl; (with_reducible apply o_pickF); (iterate 4 rfl); (with_reducible refine Tri.nil (Tri.thenN ?_)); (with_reducible apply Tri.condF); rfl; rfl; (with_reducible refine Tri.skip (Tri.thenN ?_)))
            ((with_reducible apply Tri.reach (y := ())); (case hL => ((try dsimp only); (repeat (first | exact trivial | refine And.intro (by rfl) ?_)))); (case p => ((try dsimp only); (repeat first | exact Pulls.nil | (apply Pulls.cons; repeat first | with_reducible exact Pull.head | apply Pull.tail)))))
      rw [htk] at hup
      have hJ := node_JoinU leaf (.slice A2 X.E.length a2) (.slice B2 X.K.length b2) (.slice C2 X.D.length c2) v.1 v.2.1 v.2.2 X y ⟨E, Ks, D⟩ hup (by show E.length ≤ _; omega) (by show Ks.length ≤ _; omega) (by show D.length ≤ _; omega)
      rw [← htk] at hJ
      skip
      ((first | with_reducible apply Tri.mix [own 33 4 (.slice AR VS.length cr) VS.length (NDL leaf VS), manyRd (RDS VS xs), manyRd [(.slice A2 X.E.length a2, X.E.length, EL X.E), (.slice B2 X.K.length b2, X.K.length, KL X.K), (.slice C2 X.D.length c2, X.D.length, NL X.D)]] | ((with_reducible apply TriR.mix [own 33 4 (.slice AR VS.length cr) VS.length (NDL leaf VS), manyRd (RDS VS xs), manyRd [(.slice A2 X.E.length a2, X.E.length, EL X.E), (.slice B2 X.K.length b2, X.K.length, KL X.K), (.slice C2 X.D.length c2, X.D.length, NL X.D)]]); (case hnd => rfl))); (case p => (repeat first | exact Pulls.nil | (apply Pulls.cons; repeat first | with_reducible exact Pull.head | apply Pull.tail))); (dsimp only [List.length]))
      ((first | ((with_reducible apply TriM.q 1); rfl; rfl) | ((with_reducible apply TriM.qYes 1); rfl; rfl; rfl; with_reducible rfl)); kernel_rfl; rfl; rfl; (intro F K hK; (with_reducible apply o_move); rfl; rfl; exact hK); (first | ((with_reducible apply TriM.q 2); rfl; rfl) | ((with_reducible apply TriM.qYes 2); rfl; rfl; rfl; with_reducible rfl)); kernel_rfl; rfl; rfl; (intro F K hK; (with_reducible apply o_move); rfl; rfl; exact hK))
      ((first | ((with_reducible apply TriM.q 3); (case ho => rfl); (case hg => rfl)) | ((with_reducible apply TriM.qYes 3); (case ho => rfl); (case hg => rfl); (case hyl => rfl); (case hb => with_reducible rfl))); (case hB => kernel_rfl); (case hd => rfl); (case hn => rfl); (case h => (intro F K hK; (try dsimp only [List.cons_append, List.nil_append]); ((with_reducible apply o_ixOwn (j := i)); (case hx => rfl); (case hy => rfl); (case p => (repeat first | with_reducible exact Pull.head | apply Pull.tail)); (case hj => rfl); (case hlt => exact hiv); (case hn => rfl)); exact hK)))
      ((first | ((with_reducible apply TriM.q 4); (case ho => rfl); (case hg => rfl)) | ((with_reducible apply TriM.qYes 4); (case ho => rfl); (case hg => rfl); (case hyl => rfl); (case hb => with_reducible rfl))); (case hB => kernel_rfl); (case hd => rfl); (case hn => rfl); (case h => (intro F K hK; (try dsimp only [List.cons_append, List.nil_append]); ((with_reducible apply o_loadAggOwn); (case hx => rfl); (case p => (repeat first | with_reducible exact Pull.head | apply Pull.tail)); (case hv => exact NDL_at VS i v hv); (case hl => rfl); (case hn => rfl)); exact hK)))
      ((with_reducible apply TriM.a 0); (case ho => rfl); (case hg => rfl); (case hr => kernel_rfl); (try dsimp only [List.cons_append, List.nil_append]))
      ((with_reducible apply o_loadAll (cs := ndLL leaf (.slice A2 X.E.length a2) (.slice B2 X.K.length b2) (.slice C2 X.D.length c2))); (case hx => rfl); (case p => exact (by (repeat first | with_reducible exact Pull.head | apply Pull.tail))); (case hl => rfl); (case hn => rfl))
      ((with_reducible apply TriM.back); (case p => (repeat first | exact Pulls.nil | (apply Pulls.cons; repeat first | with_reducible exact Pull.head | apply Pull.tail))))
      ((with_reducible apply TriM.a 5); (case ho => rfl); (case hg => rfl); (case hr => kernel_rfl); (try dsimp only [List.cons_append, List.nil_append]))
      ((with_reducible apply o_callR (hs := hJ)); (case hargs => (repeat first | exact evs.nil | (apply evs.cons; case a => rfl))); (case hpre => exact fun w' hw' => ⟨ndR_many (by (repeat first | with_reducible exact Pull.head | apply Pull.tail)) w' hw', ndR_at (by (repeat first | with_reducible exact Pull.head | apply Pull.tail)) hv hy w' hw'⟩); (case hn => rfl))
      rintro r3 H3 ⟨u1, u2, u3, rfl, rfl⟩
      simp only [ownN]
      (try dsimp only [List.cons_append, List.nil_append])
      (refine Tri.shape (e := 100) (size := 8) (v := u1) (by (repeat first | with_reducible exact Pull.head | apply Pull.tail)) ?_; rintro ⟨A3, a3, rfl⟩)
      (refine Tri.shape (e := 98) (size := 2) (v := u2) (by (repeat first | with_reducible exact Pull.head | apply Pull.tail)) ?_; rintro ⟨B3, b3', rfl⟩)
      (refine Tri.shape (e := 3) (size := 1) (v := u3) (by (repeat first | with_reducible exact Pull.head | apply Pull.tail)) ?_; rintro ⟨C3, c3, rfl⟩)
      ((with_reducible apply TriM.back); (case p => (repeat first | exact Pulls.nil | (apply Pulls.cons; repeat first | with_reducible exact Pull.head | apply Pull.tail))))
      ((with_reducible apply TriM.a 6); (case ho => rfl); (case hg => rfl); (case hr => kernel_rfl); (try dsimp only [List.cons_append, List.nil_append]))
      ((with_reducible apply o_storeAll (ys := ndLL leaf (.slice A3 Y.E.length a3) (.slice B3 Y.K.length b3') (.slice C3 Y.D.length c3))); (case hx => rfl); (case hy => rfl); (case p => (repeat first | with_reducible exact Pull.head | apply Pull.tail)); (case hl => rfl); (case hc => rfl); (case h1 => exact ndLL_one leaf A3 B3 C3 _ a3 _ b3' _ c3))
      ((with_reducible apply TriM.back); (case p => (repeat first | exact Pulls.nil | (apply Pulls.cons; repeat first | with_reducible exact Pull.head | apply Pull.tail))))
      ((with_reducible apply TriM.nil); (case hr => kernel_rfl); (try dsimp only [List.cons_append, List.nil_append]))
      ((with_reducible refine Tri.blockN (Tri.thenN (Tri.region ?_))); (with_reducible apply Tri.op); rfl; (with_reducible apply o_move); rfl; rfl; (with_reducible apply Tri.op); rfl; (with_reducible apply o_add64); rfl; rfl; rfl; (omega); (with_reducible apply Tri.op); rfl; (with_reducible apply o_assign); rfl; rfl; (with_reducible refine Tri.nil (Tri.thenN ?_)))
      (with_reducible apply Tri.noneM)
      refine Tri.joinS (l := []) (e := 100) (size := 8) (v := .slice A3 Y.E.length a3) (by (repeat first | with_reducible exact Pull.head | apply Pull.tail)) (by (repeat first | with_reducible exact Pull.head | apply Pull.tail)) ?_
      refine Tri.joinS (e := 98) (size := 2) (v := .slice B3 Y.K.length b3') (by (repeat first | with_reducible exact Pull.head | apply Pull.tail)) (by (repeat first | with_reducible exact Pull.head | apply Pull.tail)) ?_
      refine Tri.joinS (e := 3) (size := 1) (v := .slice C3 Y.D.length c3) (by (repeat first | with_reducible exact Pull.head | apply Pull.tail)) (by (repeat first | with_reducible exact Pull.head | apply Pull.tail)) ?_
      ((with_reducible apply Tri.eqA (A := manyRd ([] ++ [(.slice A3 _ a3, _, _)] ++ [_] ++ [_])) (B := manyRd [(.slice A3 Y.E.length a3, Y.E.length, EL Y.E), (.slice B3 Y.K.length b3', Y.K.length, KL Y.K), (.slice C3 Y.D.length c3, Y.D.length, NL Y.D)])); (case p => (repeat first | with_reducible exact Pull.head | apply Pull.tail)); (case e => rfl))
      have hix' : i + 1 ≤ xs.length := hix
      ((with_reducible apply Tri.seti 9 (((i + 1 : Nat) : Int))); (case h => rfl); (case hi => omega))
      rw [hY]
      ((with_reducible apply Tri.again (y := ⟨i + 1, A3, a3, B3, b3', C3, c3, hix'⟩)); (case p => ((try dsimp only); (repeat first | exact Pulls.nil | (apply Pulls.cons; repeat first | with_reducible exact Pull.head | apply Pull.tail)))); (case hm => ((try dsimp only); omega)); (try dsimp only))
      (repeat (first | exact trivial | refine And.intro (by rfl) ?_))
    · have hi' : i = xs.length := by omega
      have hall : joinN (xs.take i) = ⟨E, Ks, D⟩ := by rw [hi', List.take_length]; exact hjoin
      rw [hall]
      (try dsimp only)
      ((with_reducible refine Tri.exit (Tri.thenE (Tri.thenE (Tri.blockE (Tri.thenN (Tri.seq ?_)))))))
      ((first | with_reducible apply Tri.mix [blk b1 26 (ndLL leaf (.slice A E.length a) (.slice B Ks.length b) (.slice C D.length c)), exM (hp w) [(.slice A E.length a, E.length, EL E), (.slice B Ks.length b, Ks.length, KL Ks), (.slice C D.length c, D.length, NL D)], blk b3 33 (ndLL leaf (.slice A2 E.length a2) (.slice B2 Ks.length b2) (.slice C2 D.length c2)), manyRd [(.slice A2 E.length a2, E.length, EL E), (.slice B2 Ks.length b2, Ks.length, KL Ks), (.slice C2 D.length c2, D.length, NL D)]] | ((with_reducible apply TriR.mix [blk b1 26 (ndLL leaf (.slice A E.length a) (.slice B Ks.length b) (.slice C D.length c)), exM (hp w) [(.slice A E.length a, E.length, EL E), (.slice B Ks.length b, Ks.length, KL Ks), (.slice C D.length c, D.length, NL D)], blk b3 33 (ndLL leaf (.slice A2 E.length a2) (.slice B2 Ks.length b2) (.slice C2 D.length c2)), manyRd [(.slice A2 E.length a2, E.length, EL E), (.slice B2 Ks.length b2, Ks.length, KL Ks), (.slice C2 D.length c2, D.length, NL D)]]); (case hnd => rfl))); (case p => (repeat first | exact Pulls.nil | (apply Pulls.cons; repeat first | with_reducible exact Pull.head | apply Pull.tail))); (dsimp only [List.length]))
      ((first | ((with_reducible apply TriM.q 0); (case ho => rfl); (case hg => rfl)) | ((with_reducible apply TriM.qYes 0); (case ho => rfl); (case hg => rfl); (case hyl => rfl); (case hb => with_reducible rfl))); (case hB => kernel_rfl); (case hd => rfl); (case hn => rfl); (case h => (intro F K hK; (try dsimp only [List.cons_append, List.nil_append]); (with_reducible apply o_callV (hs := law12_puts)); (case hargs => (repeat first | exact evs.nil | (apply evs.cons; case a => rfl))); (case hpre => exact fun _ _ => trivial); (case hn => rfl); exact hK)))
      ((first | ((with_reducible apply TriM.q 1); rfl; rfl) | ((with_reducible apply TriM.qYes 1); rfl; rfl; rfl; with_reducible rfl)); kernel_rfl; rfl; rfl; (intro F K hK; (with_reducible apply o_move); rfl; rfl; exact hK))
      ((first | ((with_reducible apply TriM.q 2); (case ho => rfl); (case hg => rfl)) | ((with_reducible apply TriM.qYes 2); (case ho => rfl); (case hg => rfl); (case hyl => rfl); (case hb => with_reducible rfl))); (case hB => kernel_rfl); (case hd => rfl); (case hn => rfl); (case h => (intro F K hK; (try dsimp only [List.cons_append, List.nil_append]); ((with_reducible apply o_loadAll (cs := ndLL leaf (.slice A2 E.length a2) (.slice B2 Ks.length b2) (.slice C2 D.length c2))); (case hx => rfl); (case p => (repeat first | with_reducible exact Pull.head | apply Pull.tail)); (case hl => rfl); (case hn => rfl)); exact hK)))
      ((first | ((with_reducible apply TriM.q 4); (case ho => rfl); (case hg => rfl)) | ((with_reducible apply TriM.qYes 4); (case ho => rfl); (case hg => rfl); (case hyl => rfl); (case hb => with_reducible rfl))); (case hB => kernel_rfl); (case hd => rfl); (case hn => rfl); (case h => (intro F K hK; (try dsimp only [List.cons_append, List.nil_append]); ((with_reducible apply o_loadAll (cs := ndLL leaf (.slice A E.length a) (.slice B Ks.length b) (.slice C D.length c))); (case hx => rfl); (case p => (repeat first | with_reducible exact Pull.head | apply Pull.tail)); (case hl => rfl); (case hn => rfl)); exact hK)))
      ((with_reducible apply TriM.aY 3); (case ho => rfl); (case hg => rfl); (case hyl => rfl); (case hb => with_reducible rfl); (case hr => kernel_rfl); (try dsimp only [List.cons_append, List.nil_append]))
      ((with_reducible apply o_callR (hs := law12_From leaf (.slice A2 E.length a2) (.slice B2 Ks.length b2) (.slice C2 D.length c2) E Ks D bE bK bD)); (case hargs => (repeat first | exact evs.nil | (apply evs.cons; case a => rfl))); (case hpre => exact ndR_many (by (repeat first | with_reducible exact Pull.head | apply Pull.tail))); (case hn => rfl))
      rintro r4 H4 ⟨A4, a4, B4, b4', C4, c4, rfl, rfl⟩
      (try dsimp only [List.cons_append, List.nil_append])
      ((with_reducible apply TriM.back); (case p => (repeat first | exact Pulls.nil | (apply Pulls.cons; repeat first | with_reducible exact Pull.head | apply Pull.tail))))
      ((with_reducible apply TriM.more [own 103 8 (.slice A4 E.length a4) E.length (EL E), own 101 2 (.slice B4 Ks.length b4') Ks.length (KL Ks), own 3 1 (.slice C4 D.length c4) D.length (NL D)]); (case p => (repeat first | exact Pulls.nil | (apply Pulls.cons; repeat first | with_reducible exact Pull.head | apply Pull.tail))); (try dsimp only [List.cons_append, List.nil_append]))
      ((first | ((with_reducible apply TriM.q 5); (case ho => rfl); (case hg => rfl)) | ((with_reducible apply TriM.qYes 5); (case ho => rfl); (case hg => rfl); (case hyl => rfl); (case hb => with_reducible rfl))); (case hB => kernel_rfl); (case hd => rfl); (case hn => rfl); (case h => (intro F K hK; (try dsimp only [List.cons_append, List.nil_append]); (with_reducible apply o_callV (hs := ref12_Same leaf (.slice A4 E.length a4) (.slice B4 Ks.length b4') (.slice C4 D.length c4) (.slice A E.length a) (.slice B Ks.length b) (.slice C D.length c) E Ks D)); (case hargs => (repeat first | exact evs.nil | (apply evs.cons; case a => rfl))); (case hpre => exact fun w' hw' => ⟨⟨rdw_own (v := .slice A4 E.length a4) (by (repeat first | with_reducible exact Pull.head | apply Pull.tail)) w' hw', rdw_own (v := .slice B4 Ks.length b4') (by (repeat first | with_reducible exact Pull.head | apply Pull.tail)) w' hw', rdw_own (v := .slice C4 D.length c4) (by (repeat first | with_reducible exact Pull.head | apply Pull.tail)) w' hw'⟩, ndR_exM (by (repeat first | with_reducible exact Pull.head | apply Pull.tail)) w' hw'⟩); (case hn => rfl); exact hK)))
      ((first | ((with_reducible apply TriM.q 6); rfl; rfl) | ((with_reducible apply TriM.qYes 6); rfl; rfl; rfl; with_reducible rfl)); kernel_rfl; rfl; rfl; (intro F K hK; (with_reducible apply o_pickT); (iterate 4 rfl); exact hK); (first | ((with_reducible apply TriM.q 7); rfl; rfl) | ((with_reducible apply TriM.qYes 7); rfl; rfl; rfl; with_reducible rfl)); kernel_rfl; rfl; rfl; (intro F K hK; (with_reducible apply o_assign); rfl; rfl; exact hK))
      ((with_reducible apply TriM.nil); (case hr => kernel_rfl); (try dsimp only [List.cons_append, List.nil_append]))
      ((with_reducible refine Tri.thenN (Tri.ret ?_)))
      refine Tri.exBack (h0 := hp w) (l := [(.slice A E.length a, E.length, EL E), (.slice B Ks.length b, Ks.length, KL Ks), (.slice C D.length c, D.length, NL D)]) (by (repeat first | with_reducible exact Pull.head | apply Pull.tail)) ?_
      (first | with_reducible apply Tri.fin | with_reducible apply Tri.finN)
      case hr => rfl
      case h => exact ResL.cons (Res1.tmp rfl) ResL.nil
      exact fin_law (F := []) w (by (repeat first | exact Pulls.nil | (apply Pulls.cons; repeat first | with_reducible exact Pull.head | apply Pull.tail))) _ rfl
end Go.Proofs.Ytckdlfbbkemklaa
