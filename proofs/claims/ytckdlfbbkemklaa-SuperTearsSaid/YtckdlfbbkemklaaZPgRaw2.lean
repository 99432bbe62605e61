import Derived.Test.YtckdlfbbkemklaaZPgRaw
/- page: raw bytes from a disk. -/
namespace Go.Proofs.Ytckdlfbbkemklaa
open Go Go.RowKit Go.Gv
set_option linter.unusedVariables false
set_option linter.unusedSimpArgs false

/-- the first error of sectors that are read one behind the other -/
def rdE (S : DS) (i : Int) : Nat → Nat
  | 0 => 0
  | k + 1 => if rdE S i k ≠ 0 then rdE S i k else mayE S.off S.A.length (i + (k : Int))
theorem rdE_ok {S : DS} {i : Int} : ∀ {k : Nat}, rdE S i k = 0 → ∀ j < k, mayE S.off S.A.length (i + (j : Int)) = 0
  | 0, _, j, hj => absurd hj (by omega)
  | k + 1, h, j, hj => by
    rw [rdE] at h
    split at h
    · rename_i h'; exact absurd h h'
    · rename_i h'
      by_cases e : j = k
      · rw [e]; exact h
      · exact rdE_ok (k := k) (Classical.byContradiction h') j (by omega)
theorem rdE_mono {S : DS} {i : Int} {k : Nat} (h : rdE S i k ≠ 0) : ∀ m, rdE S i (k + m) = rdE S i k
  | 0 => rfl
  | m + 1 => by
    have ih := rdE_mono h m
    show (if rdE S i (k + m) ≠ 0 then rdE S i (k + m) else _) = _
    rw [ih, if_pos h]
theorem rdE_of {S : DS} {a : Nat} (ho : S.off = false) : ∀ k, (a + k) * 64 ≤ S.A.length → rdE S (a : Int) k = 0
  | 0, _ => rfl
  | k + 1, h => by
    rw [rdE, if_neg (by rw [rdE_of ho k (by omega)]; simp), ho]
    exact mayD_of (i := a + k) (by omega)
theorem text_step (V : List UInt8) (a k : Nat) (h : (a * 4 + k) * 64 + 64 ≤ V.length) : (V.drop (a * 256)).take (k * 64) ++ sec V (a * 4 + k) = (V.drop (a * 256)).take ((k + 1) * 64) := by
  rw [show (k + 1) * 64 = k * 64 + 64 by omega, List.take_add, sec, List.drop_drop, show (a * 4 + k) * 64 = a * 256 + k * 64 by omega]
theorem rd_cut {h : PH} {A : Option Addr} {m c k : Nat} {l : List UInt8} (hr : Rd h (.slice A m c) m (B8 l)) (hl : l.length = m) (hk : k ≤ m) : Rd h (.slice A k k) (l.take k).length (B8 (l.take k)) := by
  obtain ⟨A', c', hv, hc, h3⟩ := hr
  cases hv
  have e : (l.take k).length = k := by rw [List.length_take]; omega
  refine ⟨A, k, by rw [e], ⟨by omega, by omega⟩, fun j u hu => ?_⟩
  rw [show B8 (l.take k) = (B8 l).take k by simp [B8, List.map_take], List.getElem?_take] at hu
  split at hu
  · exact h3 j u hu
  · cases hu
set_option maxHeartbeats 16000000 in
theorem page_ReadRaw (p : Nat) (S : DS) (addr : Int) (n : Nat) (hS : S.ok) (hl : S.W.length ≤ 1000000) (hn : n ≤ 100000) (ha : -1000000 ≤ addr ∧ addr ≤ 1000000) :
    Gv.Spec Try.prog 122 #[.pointer (some ⟨p, 0, none⟩), .int .i64 addr, .int .i64 (n : Int)] [DSK p S]
    (fun r H' => (rdE S (addr * 4) ((n + 63) / 64) ≠ 0 ∧ r = .tuple #[.slice none 0 0, .int .i64 (rdE S (addr * 4) ((n + 63) / 64) : Int)] ∧ H' = [DSK p S])
      ∨ (rdE S (addr * 4) ((n + 63) / 64) = 0 ∧ ∃ A h1, r = .tuple #[.slice A n n, .int .i64 0] ∧ Rd h1 (.slice A n n) ((S.V.drop (addr.toNat * 256)).take n).length (B8 ((S.V.drop (addr.toNat * 256)).take n)) ∧ ((S.V.drop (addr.toNat * 256)).take n).length = n ∧ H' = [DSK p S, Ex h1])) := by
  refine Gv.Spec.of (fun w h0 hw => ?_)
  refine Calls.enter Try.func122 rfl rfl rfl hw ?_
  simp only [argSlots]
  (try dsimp only [List.cons_append, List.nil_append])
  have hVl := DS.V_length hS
  ((with_reducible refine Tri.seq (Tri.region ?_)); (with_reducible apply Tri.op); rfl; (with_reducible apply o_assign); rfl; rfl; (with_reducible apply Tri.op); rfl; (with_reducible apply o_assign); rfl; rfl; (with_reducible refine Tri.nil (Tri.thenN (Tri.seq (Tri.seq (Tri.region ?_))))); (with_reducible apply Tri.op); rfl; (with_reducible apply o_move); rfl; rfl; (with_reducible apply Tri.op); rfl; (with_reducible apply o_lss); rfl; rfl; rfl; (with_reducible refine Tri.nil (Tri.thenN ?_)))
  ((with_reducible apply Tri.setb 13 (false)); (case h => rfl); (case hi => (rw [decide_eq_false]; omega)))
  ((with_reducible apply Tri.condF); rfl; rfl; (with_reducible refine Tri.skip (Tri.thenN (Tri.seq (Tri.region ?_)))); (with_reducible apply Tri.op); rfl; (with_reducible apply o_assign); rfl; rfl; (with_reducible refine Tri.nil (Tri.thenN (Tri.seq (Tri.seq (Tri.region ?_))))); (with_reducible apply Tri.op); rfl; (with_reducible apply o_move); rfl; rfl; (with_reducible apply Tri.op); rfl; (with_reducible apply o_mul64); rfl; rfl; rfl; (omega); (with_reducible apply Tri.op); rfl; (with_reducible apply o_assign); rfl; rfl; (with_reducible refine Tri.nil (Tri.thenN (Tri.block ?_))))
  (with_reducible apply Tri.ownNil 5 1)
  ((with_reducible apply Tri.eqA (A := own 5 1 (.slice none 0 0) 0 []) (B := own 5 1 (.slice none 0 0) (((S.V.drop (addr.toNat * 256)).take (0 * 64))).length (B8 (((S.V.drop (addr.toNat * 256)).take (0 * 64)))))); (case p => (repeat first | with_reducible exact Pull.head | apply Pull.tail)); (case e => (rw [Nat.zero_mul, List.take_zero]; rfl)))
  ((with_reducible apply Tri.seti 9 ((addr * 4 + ((0 : Nat) : Int)))); (case h => rfl); (case hi => omega))
  ((first | with_reducible apply Tri.loop (α := Σ' (k : Nat) (u : Value), k ≤ (n + 63) / 64 ∧ rdE S (addr * 4) k = 0 ∧ ((S.V.drop (addr.toNat * 256)).take (k * 64)).length = k * 64) (m := fun x => (n + 63) / 64 - x.1) (Lx := fun x => [(0, .pointer (some ⟨p, 0, none⟩)), (2, .int .i64 (n : Int)), (8, x.2.1), (9, .int .i64 (addr * 4 + (x.1 : Int)))]) (Hx := fun x => [own 5 1 x.2.1 (((S.V.drop (addr.toNat * 256)).take (x.1 * 64))).length (B8 (((S.V.drop (addr.toNat * 256)).take (x.1 * 64)))), DSK p S, Ex h0]) (x0 := ⟨0, .slice none 0 0, Nat.zero_le _, rfl, by simp⟩) | with_reducible apply TriR.loop (α := Σ' (k : Nat) (u : Value), k ≤ (n + 63) / 64 ∧ rdE S (addr * 4) k = 0 ∧ ((S.V.drop (addr.toNat * 256)).take (k * 64)).length = k * 64) (m := fun x => (n + 63) / 64 - x.1) (Lx := fun x => [(0, .pointer (some ⟨p, 0, none⟩)), (2, .int .i64 (n : Int)), (8, x.2.1), (9, .int .i64 (addr * 4 + (x.1 : Int)))]) (Hx := fun x => [own 5 1 x.2.1 (((S.V.drop (addr.toNat * 256)).take (x.1 * 64))).length (B8 (((S.V.drop (addr.toNat * 256)).take (x.1 * 64)))), DSK p S, Ex h0]) (x0 := ⟨0, .slice none 0 0, Nat.zero_le _, rfl, by simp⟩)); (case hL => ((try dsimp only); (repeat (first | exact trivial | refine And.intro (by rfl) ?_)))); (case hH => ((try dsimp only); apply St.all; (repeat first | exact Pulls.nil | (apply Pulls.cons; repeat first | with_reducible exact Pull.head | apply Pull.tail))))); (rintro ⟨k, u, hk, he, hkl⟩ mx hmx; (try dsimp only at hmx ⊢))
  ((with_reducible refine Tri.seq (Tri.seq (Tri.region ?_))); (with_reducible apply Tri.op); rfl; (with_reducible apply o_move); rfl; rfl; (with_reducible apply Tri.op); rfl; (with_reducible apply o_lenOwn); rfl; (repeat first | with_reducible exact Pull.head | apply Pull.tail); rfl; (with_reducible apply Tri.op); rfl; (with_reducible apply o_move); rfl; rfl; (with_reducible apply Tri.op); rfl; (with_reducible apply o_lss); rfl; rfl; rfl; (with_reducible refine Tri.nil (Tri.thenN ?_)))
  ((first | with_reducible apply Tri.condD | with_reducible apply TriR.condD); (case hc => rfl); (all_goals intro h))
  · have hk' : k < (n + 63) / 64 := by rw [hkl] at h; omega
    ((with_reducible refine Tri.skip (Tri.thenN (Tri.seq (Tri.block (Tri.seq (Tri.region ?_)))))); (with_reducible apply Tri.op); rfl; (with_reducible apply o_move); rfl; rfl; (with_reducible apply Tri.op); rfl; (with_reducible apply o_move); rfl; rfl; (with_reducible apply Tri.op); rfl)
    ((with_reducible apply o_callS (hs := disk_ReadD p S (addr * 4 + (k : Int)) hS hl)); (case hargs => (repeat first | exact evs.nil | (apply evs.cons; case a => rfl))); (case p => (repeat first | exact Pulls.nil | (apply Pulls.cons; repeat first | with_reducible exact Pull.head | apply Pull.tail))); (case hn => rfl))
    rintro r H' (⟨hm, rfl, rfl⟩ | ⟨hm, v, rfl, rfl⟩)
    · have hbad : rdE S (addr * 4) (k + 1) = mayE S.off S.A.length (addr * 4 + (k : Int)) := by rw [rdE, if_neg (by rw [he]; simp)]
      have hall : rdE S (addr * 4) ((n + 63) / 64) = mayE S.off S.A.length (addr * 4 + (k : Int)) := by
        have := rdE_mono (S := S) (i := addr * 4) (k := k + 1) (by rw [hbad]; exact hm) ((n + 63) / 64 - (k + 1))
        rw [show k + 1 + ((n + 63) / 64 - (k + 1)) = (n + 63) / 64 by omega] at this
        rw [this, hbad]
      (try dsimp only [List.cons_append, List.nil_append])
      ((with_reducible apply Tri.op); rfl; (with_reducible apply o_move); rfl; rfl; (with_reducible apply Tri.op); rfl; (with_reducible apply o_extract); rfl; rfl; rfl; (with_reducible apply Tri.op); rfl; (with_reducible apply o_extract); rfl; rfl; rfl; (with_reducible apply Tri.op); rfl; (with_reducible apply o_assign); rfl; rfl; (with_reducible apply Tri.op); rfl; (with_reducible apply o_assign); rfl; rfl; (with_reducible refine Tri.nil (Tri.thenN (Tri.seq (Tri.seq (Tri.region ?_))))); (with_reducible apply Tri.op); rfl; (with_reducible apply o_move); rfl; rfl; (with_reducible apply Tri.op); rfl; (with_reducible apply o_neq); rfl; rfl; rfl; (with_reducible refine Tri.nil (Tri.thenN ?_)))
      ((with_reducible apply Tri.setb 29 (true)); (case h => rfl); (case hi => (rw [decide_eq_true]; omega)))
      ((with_reducible apply Tri.condT); rfl; rfl; (with_reducible refine Tri.seq (Tri.region ?_)); (with_reducible apply Tri.op); rfl; (with_reducible apply o_move); rfl; rfl; (with_reducible apply Tri.op); rfl; (with_reducible apply o_assign); rfl; rfl; (with_reducible apply Tri.op); rfl; (with_reducible apply o_assign); rfl; rfl; (with_reducible refine Tri.nil (Tri.thenN (Tri.ret (Tri.thenR (Tri.blockR (Tri.thenR (Tri.thenR (Tri.blockR (Tri.thenR ?_))))))))))
      ((first | with_reducible apply Tri.fin | with_reducible apply Tri.finN); (case hr => rfl); (case h => exact ResL.cons (Res1.tmp rfl) (ResL.cons (Res1.tmp rfl) (ResL.nil))); (apply fin_R (Hn := [DSK p S])); (case p => exact (by (repeat first | exact Pulls.nil | (apply Pulls.cons; repeat first | with_reducible exact Pull.head | apply Pull.tail)))); exact .inl ⟨by rw [hall]; exact hm, by rw [hall]; rfl, rfl⟩)
    · obtain ⟨_, hi0, hi1⟩ := mayD_ok hm
      have ha0 : 0 ≤ addr := by
        by_cases hk0 : k = 0
        · subst hk0; omega
        · have := (mayD_ok (rdE_ok he 0 (by omega))).2.1
          omega
      have e1 : (addr * 4 + (k : Int)).toNat = addr.toNat * 4 + k := by omega
      rw [e1]
      rw [e1] at hi1
      have hstep := text_step S.V addr.toNat k (by omega)
      have hsl := sec_length (b := S.V) (j := addr.toNat * 4 + k) (by omega)
      have hok : rdE S (addr * 4) (k + 1) = 0 := by rw [rdE, if_neg (by rw [he]; simp)]; exact hm
      have hnl : ((S.V.drop (addr.toNat * 256)).take ((k + 1) * 64)).length = (k + 1) * 64 := by
        rw [List.length_take, List.length_drop]; omega
      (try dsimp only [List.cons_append, List.nil_append])
      ((with_reducible apply Tri.op); rfl; (with_reducible apply o_move); rfl; rfl; (with_reducible apply Tri.op); rfl; (with_reducible apply o_extract); rfl; rfl; rfl; (with_reducible apply Tri.op); rfl; (with_reducible apply o_extract); rfl; rfl; rfl; (with_reducible apply Tri.op); rfl; (with_reducible apply o_assign); rfl; rfl; (with_reducible apply Tri.op); rfl; (with_reducible apply o_assign); rfl; rfl; (with_reducible refine Tri.nil (Tri.thenN (Tri.seq (Tri.seq (Tri.region ?_))))); (with_reducible apply Tri.op); rfl; (with_reducible apply o_move); rfl; rfl; (with_reducible apply Tri.op); rfl; (with_reducible apply o_neq); rfl; rfl; rfl; (with_reducible refine Tri.nil (Tri.thenN ?_)))
      ((with_reducible apply Tri.setb 29 (false)); (case h => rfl); (case hi => rfl))
      ((with_reducible apply Tri.condF); rfl; rfl; (with_reducible refine Tri.skip (Tri.thenN (Tri.region ?_))); (with_reducible apply Tri.op); rfl; (with_reducible apply o_move); rfl; rfl; (with_reducible apply Tri.op); rfl; (with_reducible apply o_move); rfl; rfl; (with_reducible apply Tri.op); rfl)
      ((with_reducible apply o_append); (case hx => rfl); (case hy => rfl); (case p => (repeat first | with_reducible exact Pull.head | apply Pull.tail)); (case hr => exact rdw_own (v := v) (by (repeat first | with_reducible exact Pull.head | apply Pull.tail))); (case hl => (rw [B8_length, hsl])); (case h1 => (intro y hy; obtain ⟨c, _, rfl⟩ := List.mem_map.1 hy; rfl)); (case hb => (rw [hkl]; omega)); (case hn => rfl))
      intro u'
      ((with_reducible apply Tri.op); rfl; (with_reducible apply o_assign); rfl; rfl; (with_reducible refine Tri.nil (Tri.blockN (Tri.thenN (Tri.region ?_)))); (with_reducible apply Tri.op); rfl; (with_reducible apply o_move); rfl; rfl; (with_reducible apply Tri.op); rfl; (with_reducible apply o_add64); rfl; rfl; rfl; (omega); (with_reducible apply Tri.op); rfl; (with_reducible apply o_assign); rfl; rfl; (with_reducible refine Tri.nil (Tri.thenN ?_)))
      ((with_reducible apply Tri.eqA (A := own 5 1 u' _ _) (B := own 5 1 u' (((S.V.drop (addr.toNat * 256)).take ((k + 1) * 64))).length (B8 (((S.V.drop (addr.toNat * 256)).take ((k + 1) * 64)))))); (case p => (repeat first | with_reducible exact Pull.head | apply Pull.tail)); (case e => (rw [← hstep, B8_append, List.length_append, hsl])))
      ((with_reducible apply Tri.seti 9 ((addr * 4 + ((k + 1 : Nat) : Int)))); (case h => rfl); (case hi => omega))
      ((with_reducible apply Tri.again (y := ⟨k + 1, u', by omega, hok, hnl⟩)); (case p => ((try dsimp only); (repeat first | exact Pulls.nil | (apply Pulls.cons; repeat first | with_reducible exact Pull.head | apply Pull.tail)))); (case hm => ((try dsimp only); omega)); (try dsimp only))
      (repeat (first | exact trivial | refine And.intro (by rfl) ?_))
  · have hke : k = (n + 63) / 64 := by rw [hkl] at h; omega
    refine Tri.shut (e := 5) (size := 1) (v := u) (by (repeat first | with_reducible exact Pull.head | apply Pull.tail)) (fun h1 ho => ?_)
    have hr := own_Rd ho
    obtain ⟨A, c, hu, hmc, _⟩ := hr.slice
    subst hu
    rw [hkl] at hmc
    have hcut := rd_cut (k := n) hr rfl (by rw [hkl]; omega)
    rw [List.take_take, Nat.min_eq_left (by omega)] at hcut
    have hcl : ((S.V.drop (addr.toNat * 256)).take n).length = n := by
      rw [List.length_take] at hkl ⊢
      omega
    ((with_reducible refine Tri.exit (Tri.thenE (Tri.thenE (Tri.blockE (Tri.thenN (Tri.seq (Tri.region ?_))))))); (with_reducible apply Tri.op); rfl; (with_reducible apply o_move); rfl; rfl; (with_reducible apply Tri.op); rfl; (with_reducible apply o_move); rfl; rfl; (with_reducible apply Tri.op); rfl; (with_reducible apply o_move); rfl; rfl; (with_reducible apply Tri.op); rfl)
    ((with_reducible apply o_slice3 (lo := 0) (hi := n) (mx := n)); (case hx => rfl); (case hol => first | exact fun _ _ => rfl | exact fun a ha => congrArg some (ha.eval rfl)); (case hlo => first | exact .inr ⟨rfl, rfl⟩ | exact .inl ⟨_, rfl⟩ | exact .inl ⟨_, (by congr 2; omega)⟩); (case hy => rfl); (case hz => rfl); (case hlh => omega); (case hhm => omega); (case hmc => omega); (case hn => rfl))
    ((with_reducible apply Tri.setv 37 ((.slice A n n))); (case h => rfl); (case hv => (simp only [Nat.sub_zero, Nat.zero_mul]; cases A <;> simp [Addr.add])))
    ((with_reducible apply Tri.op); rfl; (with_reducible apply o_assign); rfl; rfl; (with_reducible apply Tri.op); rfl; (with_reducible apply o_assign); rfl; rfl; (with_reducible refine Tri.nil (Tri.thenN (Tri.ret ?_))))
    ((first | with_reducible apply Tri.fin | with_reducible apply Tri.finN); (case hr => rfl); (case h => exact ResL.cons (Res1.tmp rfl) (ResL.cons (Res1.tmp rfl) (ResL.nil))); (apply fin_R (Hn := [DSK p S, Ex h1])); (case p => exact (by (repeat first | exact Pulls.nil | (apply Pulls.cons; repeat first | with_reducible exact Pull.head | apply Pull.tail)))); exact .inr ⟨by rw [← hke]; exact he, A, h1, rfl, hcut, hcl, rfl⟩)
end Go.Proofs.Ytckdlfbbkemklaa
