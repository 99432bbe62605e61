import Derived.Test.YtckdlfbbkemklaaZSpLaw2
import Derived.Test.YtckdlfbbkemklaaZGvLaw
/- super: of ever more generations the last one counts; of a disk of another size none does: the walk. -/
namespace Go.Proofs.Ytckdlfbbkemklaa
open Go Go.RowKit Go.Gv
set_option linter.unusedVariables false
set_option linter.unusedSimpArgs false

theorem fl_on {S : DS} (h : S.on) : S.fl = (DS.of S.V, 0) := by
  rw [DS.fl, if_neg (by rw [h.2.1]; simp), if_neg (by rw [h.2.2]; simp), h.2.2]; rfl
theorem inv_same {S S' : DS} {n : Nat} {P : Int} (h : ∀ a, a < 2 → pgAt S'.V a = pgAt S.V a) (hI : InvS S n P) : InvS S' n P := by
  intro a ha
  have e := h a ha
  rcases hI a ha with hb | ⟨t, h1, h2, h3, h4, h5, h6⟩
  · exact .inl (by rw [e]; exact hb)
  · exact .inr ⟨t, h1, h2, h3, h4, h5, by rw [e]; exact h6⟩
theorem pgAt_app (A B : List UInt8) (a : Nat) (h : a * 256 + 256 ≤ A.length) : pgAt (A ++ B) a = pgAt A a := by
  have h1 : a * 256 ≤ A.length := Nat.le_of_add_right_le h
  have h2 : 256 ≤ (A.drop (a * 256)).length := by rw [List.length_drop]; exact Nat.le_sub_of_add_le (by rw [Nat.add_comm]; exact h)
  show ((A ++ B).drop (a * 256)).take 256 = (A.drop (a * 256)).take 256
  rw [List.drop_append_of_le_length h1]
  exact List.take_append_of_le_length h2
theorem B8_zeros (k : Nat) : B8 (List.replicate k 0) = List.replicate k (.int .u8 0) := by rw [B8, List.map_replicate]; rfl
/-- a super of the turns -/
def spT (g i : Nat) : SP := ⟨g + i, 0, 0, ((2 + i % 10 : Nat) : Int), 16⟩
theorem spT_ok (g i : Nat) (h : 0 < g) : okS (spT g i) = true := by
  have h1 : (spT g i).gen = g + i := rfl
  have h2 : (spT g i).bitmap = ((2 + i % 10 : Nat) : Int) := rfl
  have h3 : (spT g i).pages = 16 := rfl
  have h4 : (spT g i).height = 0 := rfl
  have h5 : (spT g i).addr = 0 := rfl
  rw [okS, h1, h2, h3, h4, h5, decide_eq_true (show g + i ≠ 0 by omega), decide_eq_true (show (2 : Int) ≤ ((2 + i % 10 : Nat) : Int) by omega), decide_eq_true (show ((2 + i % 10 : Nat) : Int) < 16 by omega)]
  rfl
set_option maxHeartbeats 8000000 in
theorem superTurns_walk (w : World) (x : Int) (f : Nat) (hf : f < 18446744073709551616) :
    Calls Try.prog 5 #[.int .i64 x, .int .u64 (f : Int)] w (Ret (LawR w)) := by
  refine Calls.enter Try.func5 rfl rfl rfl (St.rebase w) ?_
  simp only [argSlots]
  obtain ⟨k, hk⟩ : ∃ k : Nat, (k : Int) = 1 + x % 18446744073709551616 % 20 := ⟨(1 + x % 18446744073709551616 % 20).toNat, by omega⟩
  have hk20 : k ≤ 20 := by omega
  obtain ⟨g, hgd⟩ : ∃ g : Nat, g = f % 1000000 + 1 := ⟨_, rfl⟩
  have hon0 := DS.new_on 16 (by omega)
  have hAl0 : (DS.new 16).A.length = 4096 := DS.new_len 16
  have hWl0 : (DS.new 16).W.length ≤ 4 * 0 := by rw [DS.new_W]; exact Nat.zero_le _
  have hI0 : InvS (DS.new 16) (g + 0) 16 := inv_new 16 _ 16 (by omega)
  ((with_reducible refine Tri.seq (Tri.region ?_)); (with_reducible apply Tri.op); rfl; (with_reducible apply o_assign); rfl; rfl; (with_reducible refine Tri.nil (Tri.thenN (Tri.seq (Tri.region ?_)))); (with_reducible apply Tri.op); rfl)
  ((with_reducible apply o_callR (hs := disk_NewD 16 (by omega))); (case hargs => (repeat first | exact evs.nil | (apply evs.cons; case a => rfl))); (case hpre => exact fun _ _ => trivial); (case hn => rfl))
  rintro r1 H1 ⟨d, rfl, rfl⟩
  (try dsimp only [List.cons_append, List.nil_append])
  ((with_reducible apply Tri.op); rfl; (with_reducible apply o_move); rfl; rfl; (with_reducible apply Tri.op); rfl; (with_reducible apply o_extract); rfl; rfl; rfl; (with_reducible apply Tri.op); rfl; (with_reducible apply o_extract); rfl; rfl; rfl; (with_reducible apply Tri.op); rfl; (with_reducible apply o_assign); rfl; rfl; (with_reducible apply Tri.op); rfl; (with_reducible apply o_assign); rfl; rfl; (with_reducible refine Tri.nil (Tri.thenN (Tri.seq (Tri.region ?_)))); (with_reducible apply Tri.op); rfl)
  ((with_reducible apply o_callV (hs := crc_New)); (case hargs => (repeat first | exact evs.nil | (apply evs.cons; case a => rfl))); (case hpre => exact fun _ _ => trivial); (case hn => rfl))
  ((with_reducible apply Tri.op); rfl)
  ((with_reducible apply o_alloc); (case hn => rfl); intro b7)
  ((with_reducible apply Tri.op); rfl)
  ((with_reducible apply o_storeAll); (case hx => rfl); (case hy => rfl); (case p => (repeat first | with_reducible exact Pull.head | apply Pull.tail)); (case hl => exact tabL_length); (case hc => exact List.length_replicate); (case h1 => exact tabL_one))
  ((with_reducible refine Tri.nil (Tri.thenN (Tri.seq (Tri.region ?_)))); (with_reducible apply Tri.op); rfl; (with_reducible apply o_move); rfl; rfl; (with_reducible apply Tri.op); rfl; (with_reducible apply o_conv64); rfl; rfl; (with_reducible apply Tri.op); rfl; (with_reducible apply o_rem); rfl; rfl; rfl; (omega); (omega); (with_reducible apply Tri.op); rfl; (with_reducible apply o_convI); rfl; rfl; (first | decide | (exact wrap_i64 (by omega)) | (exact wrap_u8 (by omega)) | (exact wrap_u16 (by omega)) | (exact wrap_u32 (by omega)) | (exact wrap_u64 (by omega))); (with_reducible apply Tri.op); rfl; (with_reducible apply o_add64); rfl; rfl; rfl; (omega); (with_reducible apply Tri.op); rfl; (with_reducible apply o_assign); rfl; rfl; (with_reducible refine Tri.nil (Tri.thenN (Tri.seq (Tri.region ?_)))); (with_reducible apply Tri.op); rfl; (with_reducible apply o_move); rfl; rfl; (with_reducible apply Tri.op); rfl; (with_reducible apply o_rem); rfl; rfl; rfl; (omega); (omega); (with_reducible apply Tri.op); rfl; (with_reducible apply o_add); rfl; rfl; rfl; (with_reducible apply Tri.op); rfl; (with_reducible apply o_assign); rfl; rfl; (with_reducible refine Tri.nil (Tri.thenN (Tri.seq (Tri.seq (Tri.region ?_))))); (with_reducible apply Tri.op); rfl; (with_reducible apply o_assign); rfl; rfl; (with_reducible refine Tri.nil (Tri.thenN (Tri.block ?_))))
  ((with_reducible apply Tri.seti 8 ((k : Int))); (case h => rfl); (case hi => omega))
  ((with_reducible apply Tri.seti 9 ((g : Int))); (case h => rfl); (case hi => (first | omega | (rw [wrap_u64 (by omega)]; omega))))
  ((first | with_reducible apply Tri.loop (α := Σ' (i : Nat) (S : DS), i ≤ k ∧ S.on ∧ S.A.length = 4096 ∧ S.W.length ≤ 4 * i ∧ InvS S (g + i) 16) (m := fun x => k - x.1) (Lx := fun x => [(5, .pointer (some ⟨d, 0, none⟩)), (6, .int .i64 0), (7, .pointer (some ⟨b7, 0, none⟩)), (8, .int .i64 (k : Int)), (9, .int .u64 (g : Int)), (10, .int .i64 (x.1 : Int))]) (Hx := fun x => [DSK d x.2.1, blk b7 63 tabL, Ex (hp w)]) (x0 := ⟨0, DS.new 16, Nat.zero_le _, hon0, hAl0, hWl0, hI0⟩) | with_reducible apply TriR.loop (α := Σ' (i : Nat) (S : DS), i ≤ k ∧ S.on ∧ S.A.length = 4096 ∧ S.W.length ≤ 4 * i ∧ InvS S (g + i) 16) (m := fun x => k - x.1) (Lx := fun x => [(5, .pointer (some ⟨d, 0, none⟩)), (6, .int .i64 0), (7, .pointer (some ⟨b7, 0, none⟩)), (8, .int .i64 (k : Int)), (9, .int .u64 (g : Int)), (10, .int .i64 (x.1 : Int))]) (Hx := fun x => [DSK d x.2.1, blk b7 63 tabL, Ex (hp w)]) (x0 := ⟨0, DS.new 16, Nat.zero_le _, hon0, hAl0, hWl0, hI0⟩)); (case hL => ((try dsimp only); (repeat (first | exact trivial | refine And.intro (by rfl) ?_)))); (case hH => ((try dsimp only); apply St.all; (repeat first | exact Pulls.nil | (apply Pulls.cons; repeat first | with_reducible exact Pull.head | apply Pull.tail))))); (rintro ⟨i, S, hi, hon, hA, hW, hI⟩ mx hmx; (try dsimp only at hmx ⊢))
  have hok := hon.1
  have hA5 : 512 ≤ S.A.length := by omega
  ((with_reducible refine Tri.seq (Tri.seq (Tri.region ?_))); (with_reducible apply Tri.op); rfl; (with_reducible apply o_move); rfl; rfl; (with_reducible apply Tri.op); rfl; (with_reducible apply o_move); rfl; rfl; (with_reducible apply Tri.op); rfl; (with_reducible apply o_lss); rfl; rfl; rfl; (with_reducible refine Tri.nil (Tri.thenN ?_)))
  ((first | with_reducible apply Tri.condD | with_reducible apply TriR.condD); (case hc => rfl); (all_goals intro hc))
  · have hik : i < k := by omega
    have hs := spT_ok g i (by omega)
    have hg : (spT g i).gen < 18446744073709551616 := by show g + i < _; omega
    obtain ⟨e1, hon1, hV1, hA1, hW1⟩ := wrS_on hon hA5 hs
    obtain ⟨hI1, hp1⟩ := inv_step hon hA5 (P := 16) hs hg rfl hI
    ((with_reducible refine Tri.skip (Tri.thenN (Tri.seq (Tri.block (Tri.seq (Tri.region ?_)))))); (with_reducible apply Tri.op); rfl)
    ((with_reducible apply o_loadAll); (case hx => rfl); (case p => (repeat first | with_reducible exact Pull.head | apply Pull.tail)); (case hl => exact tabL_length); (case hn => rfl))
    ((with_reducible apply Tri.op); rfl; (with_reducible apply o_move); rfl; rfl; (with_reducible apply Tri.op); rfl; (with_reducible apply o_move); rfl; rfl; (with_reducible apply Tri.op); rfl; (with_reducible apply o_move); rfl; rfl; (with_reducible apply Tri.op); rfl; (with_reducible apply o_convI); rfl; rfl; (first | decide | (exact wrap_i64 (by omega)) | (exact wrap_u8 (by omega)) | (exact wrap_u16 (by omega)) | (exact wrap_u32 (by omega)) | (exact wrap_u64 (by omega))); (with_reducible apply Tri.op); rfl; (with_reducible apply o_add); rfl; rfl; rfl; (with_reducible apply Tri.op); rfl; (with_reducible apply o_move); rfl; rfl; (with_reducible apply Tri.op); rfl; (with_reducible apply o_rem); rfl; rfl; rfl; (omega); (omega); (with_reducible apply Tri.op); rfl; (with_reducible apply o_add64); rfl; rfl; rfl; (omega); (with_reducible apply Tri.op); rfl)
    ((with_reducible apply Tri.seti 41 (((g + i : Nat) : Int))); (case h => rfl); (case hi => (rw [wrap_u64 (by omega)]; omega)))
    ((with_reducible apply Tri.seti 44 (((2 + i % 10 : Nat) : Int))); (case h => rfl); (case hi => omega))
    ((with_reducible apply o_build (ys := spL (spT g i))); (case hp => (repeat first | exact pev.nil | (apply pev.cons; case a => rfl))); (case hf => rfl); (case hn => rfl))
    ((with_reducible apply Tri.op); rfl)
    ((with_reducible apply o_callS (hs := super_Write d S (spT g i) hg hok (by omega))); (case hargs => (repeat first | exact evs.nil | (apply evs.cons; case a => rfl))); (case p => (repeat first | exact Pulls.nil | (apply Pulls.cons; repeat first | with_reducible exact Pull.head | apply Pull.tail))); (case hn => rfl))
    rintro r2 H2 ⟨rfl, rfl⟩
    rw [e1]
    obtain ⟨S1, hS1⟩ : ∃ S1, S1 = (wrS S (spT g i)).1 := ⟨_, rfl⟩
    rw [← hS1] at hon1 hV1 hA1 hW1 hI1 hp1 ⊢
    have hok1 := hon1.1
    have hAl1 : S1.A.length = 4096 := by rw [hA1, hA]
    have hn : nwS S1 = (spT g i, 0) := inv_newest hon1 (by omega) hs hg (by rw [hAl1]; rfl) hI1 hp1
    have hI2 : InvS S1 (g + (i + 1)) 16 := hI1
    have hW2 : S1.W.length ≤ 4 * (i + 1) := by omega
    have hik2 : i + 1 ≤ k := by omega
    (try dsimp only [List.cons_append, List.nil_append])
    ((with_reducible apply Tri.op); rfl; (with_reducible apply o_assign); rfl; rfl; (with_reducible refine Tri.nil (Tri.thenN (Tri.seq (Tri.region ?_)))); (with_reducible apply Tri.op); rfl)
    ((with_reducible apply o_loadAll); (case hx => rfl); (case p => (repeat first | with_reducible exact Pull.head | apply Pull.tail)); (case hl => exact tabL_length); (case hn => rfl))
    ((with_reducible apply Tri.op); rfl; (with_reducible apply o_move); rfl; rfl; (with_reducible apply Tri.op); rfl)
    ((with_reducible apply o_callS (hs := super_Newest d S1 hok1 (by omega))); (case hargs => (repeat first | exact evs.nil | (apply evs.cons; case a => rfl))); (case p => (repeat first | exact Pulls.nil | (apply Pulls.cons; repeat first | with_reducible exact Pull.head | apply Pull.tail))); (case hn => rfl))
    rintro r3 H3 ⟨rfl, rfl⟩
    rw [hn]
    (try dsimp only [List.cons_append, List.nil_append])
    ((with_reducible apply Tri.op); rfl; (with_reducible apply o_move); rfl; rfl; (with_reducible apply Tri.op); rfl; (with_reducible apply o_extract); rfl; rfl; rfl; (with_reducible apply Tri.op); rfl; (with_reducible apply o_extract); rfl; rfl; rfl; (with_reducible apply Tri.op); rfl)
    ((with_reducible apply o_alloc); (case hn => rfl); intro b12)
    ((with_reducible apply Tri.op); rfl)
    ((with_reducible apply o_storeAll (ys := spL (spT g i))); (case hx => rfl); (case hy => rfl); (case p => (repeat first | with_reducible exact Pull.head | apply Pull.tail)); (case hl => rfl); (case hc => rfl); (case h1 => exact spL_one (spT g i)))
    ((with_reducible apply Tri.op); rfl; (with_reducible apply o_assign); rfl; rfl; (with_reducible refine Tri.nil (Tri.thenN (Tri.seq (Tri.region ?_)))); (with_reducible apply Tri.op); rfl; (with_reducible apply o_move); rfl; rfl; (with_reducible apply Tri.op); rfl; (with_reducible apply o_neq); rfl; rfl; rfl; (with_reducible apply Tri.op); rfl; (with_reducible apply o_move); rfl; rfl)
    ((with_reducible apply Tri.setb 55 (false)); (case h => rfl); (case hi => rfl))
    ((with_reducible apply Tri.opYes); rfl; rfl; rfl; (with_reducible apply o_move); rfl; rfl; (with_reducible apply Tri.opYes); rfl; rfl; rfl; (with_reducible apply o_neq); rfl; rfl; rfl; (with_reducible apply Tri.op); rfl; (with_reducible apply o_pickF); (iterate 4 rfl); (with_reducible apply Tri.op); rfl; (with_reducible apply o_move); rfl; rfl)
    ((with_reducible apply Tri.setb 59 (false)); (case h => rfl); (case hi => rfl))
    ((with_reducible apply Tri.opYes); rfl; rfl; rfl; (with_reducible apply o_fieldAddr); rfl; rfl; (with_reducible apply Tri.opYes); rfl; rfl; rfl; (with_reducible apply o_load); rfl; (repeat first | with_reducible exact Pull.head | apply Pull.tail); rfl; rfl; (with_reducible apply Tri.opYes); rfl; rfl; rfl; (with_reducible apply o_move); rfl; rfl; (with_reducible apply Tri.opYes); rfl; rfl; rfl; (with_reducible apply o_move); rfl; rfl; (with_reducible apply Tri.opYes); rfl; rfl; rfl; (with_reducible apply o_convI); rfl; rfl; (first | decide | (exact wrap_i64 (by omega)) | (exact wrap_u8 (by omega)) | (exact wrap_u16 (by omega)) | (exact wrap_u32 (by omega)) | (exact wrap_u64 (by omega))); (with_reducible apply Tri.opYes); rfl; rfl; rfl; (with_reducible apply o_add); rfl; rfl; rfl; (with_reducible apply Tri.opYes); rfl; rfl; rfl; (with_reducible apply o_neq); rfl; rfl; rfl; (with_reducible apply Tri.op); rfl; (with_reducible apply o_pickF); (iterate 4 rfl); (with_reducible apply Tri.op); rfl; (with_reducible apply o_move); rfl; rfl)
    ((with_reducible apply Tri.setb 68 (false)); (case h => rfl); (case hi => (first | (rw [wrap_u64 (by omega)]; exact decide_eq_false (fun q => q (by show ((g + i : Nat) : Int) = _; omega))) | exact decide_eq_false (fun q => q (by show ((g + i : Nat) : Int) = _; omega)))))
    ((with_reducible apply Tri.opYes); rfl; rfl; rfl; (with_reducible apply o_fieldAddr); rfl; rfl; (with_reducible apply Tri.opYes); rfl; rfl; rfl; (with_reducible apply o_load); rfl; (repeat first | with_reducible exact Pull.head | apply Pull.tail); rfl; rfl; (with_reducible apply Tri.opYes); rfl; rfl; rfl; (with_reducible apply o_move); rfl; rfl; (with_reducible apply Tri.opYes); rfl; rfl; rfl; (with_reducible apply o_rem); rfl; rfl; rfl; (omega); (omega); (with_reducible apply Tri.opYes); rfl; rfl; rfl; (with_reducible apply o_add64); rfl; rfl; rfl; (omega); (with_reducible apply Tri.opYes); rfl; rfl; rfl; (with_reducible apply o_neq); rfl; rfl; rfl; (with_reducible apply Tri.op); rfl; (with_reducible apply o_pickF); (iterate 4 rfl); (with_reducible refine Tri.nil (Tri.thenN ?_)))
    ((with_reducible apply Tri.setb 75 (false)); (case h => rfl); (case hi => exact decide_eq_false (fun q => q (by show ((2 + i % 10 : Nat) : Int) = _; omega))))
    ((with_reducible apply Tri.condF); rfl; rfl; (with_reducible refine Tri.skip (Tri.blockN (Tri.thenN (Tri.region ?_)))); (with_reducible apply Tri.op); rfl; (with_reducible apply o_move); rfl; rfl; (with_reducible apply Tri.op); rfl; (with_reducible apply o_add64); rfl; rfl; rfl; (omega); (with_reducible apply Tri.op); rfl; (with_reducible apply o_assign); rfl; rfl; (with_reducible refine Tri.nil (Tri.thenN ?_)))
    ((with_reducible apply Tri.seti 10 (((i + 1 : Nat) : Int))); (case h => rfl); (case hi => omega))
    ((with_reducible apply Tri.again (y := ⟨i + 1, S1, hik2, hon1, hAl1, hW2, hI2⟩)); (case p => ((try dsimp only); (repeat first | exact Pulls.nil | (apply Pulls.cons; repeat first | with_reducible exact Pull.head | apply Pull.tail)))); (case hm => ((try dsimp only); omega)); (try dsimp only))
    (repeat (first | exact trivial | refine And.intro (by rfl) ?_))
  · obtain rfl : i = k := by omega
    have hVl : S.V.length = 4096 := by rw [DS.V_length hok, hA]
    have hfl := fl_on hon
    have hon2 := DS.of_on (l := S.V) (by omega)
    ((with_reducible refine Tri.exit (Tri.thenE (Tri.thenE (Tri.blockE (Tri.thenN (Tri.seq (Tri.seq (Tri.region ?_)))))))); (with_reducible apply Tri.op); rfl; (with_reducible apply o_move); rfl; rfl; (with_reducible apply Tri.op); rfl)
    ((with_reducible apply o_callS (hs := disk_FlushD d S hok (by omega))); (case hargs => (repeat first | exact evs.nil | (apply evs.cons; case a => rfl))); (case p => (repeat first | exact Pulls.nil | (apply Pulls.cons; repeat first | with_reducible exact Pull.head | apply Pull.tail))); (case hn => rfl))
    rintro r2 H2 ⟨rfl, rfl⟩
    rw [hfl]
    (try dsimp only [List.cons_append, List.nil_append])
    ((with_reducible apply Tri.op); rfl; (with_reducible apply o_neq); rfl; rfl; rfl; (with_reducible refine Tri.nil (Tri.thenN ?_)))
    ((with_reducible apply Tri.setb 78 (false)); (case h => rfl); (case hi => rfl))
    ((with_reducible apply Tri.condF); rfl; rfl; (with_reducible refine Tri.skip (Tri.thenN (Tri.seq (Tri.region ?_)))); (with_reducible apply Tri.op); rfl; (with_reducible apply o_move); rfl; rfl; (with_reducible apply Tri.op); rfl)
    have hok2 := hon2.1
    ((with_reducible apply o_callS (hs := disk_ImageD d (DS.of S.V) hok2)); (case hargs => (repeat first | exact evs.nil | (apply evs.cons; case a => rfl))); (case p => (repeat first | exact Pulls.nil | (apply Pulls.cons; repeat first | with_reducible exact Pull.head | apply Pull.tail))); (case hn => rfl))
    rintro r3 H3 rfl
    (try dsimp only [List.cons_append, List.nil_append])
    have hAe : (DS.of S.V).A = S.V := rfl
    have hb4 : (S.V.length + 256) * 1 ≤ 140737488355328 := by rw [hVl]; decide
    rw [hAe]
    ((with_reducible apply Tri.op); rfl)
    ((with_reducible apply o_appendZ (k := 256)); (case hx => rfl); (case hy => rfl); (case hi => rfl); (case p => (repeat first | with_reducible exact Pull.head | apply Pull.tail)); (case h1 => rfl); (case hb => exact hb4); (case hn => rfl))
    intro v10
    obtain ⟨l, hl⟩ : ∃ l, l = S.V ++ List.replicate 256 (0 : UInt8) := ⟨_, rfl⟩
    have hll : l.length = 17 * 256 := by rw [hl, List.length_append, List.length_replicate, hVl]
    ((with_reducible apply Tri.eqA (A := own 5 1 v10 _ _) (B := own 5 1 v10 l.length (B8 l))); (case p => (repeat first | with_reducible exact Pull.head | apply Pull.tail)); (case e => exact own_list (by rw [hll]; omega) (by rw [hl, B8_append]; rw [B8_zeros])))
    ((with_reducible apply Tri.op); rfl)
    ((with_reducible apply o_callR (hs := disk_LoadD v10 l 17 hll (by omega))); (case hargs => (repeat first | exact evs.nil | (apply evs.cons; case a => rfl))); (case hpre => exact rdw_own (by (repeat first | with_reducible exact Pull.head | apply Pull.tail))); (case hn => rfl))
    rintro r4 H4 ⟨d2, rfl, rfl⟩
    (try dsimp only [List.cons_append, List.nil_append])
    have hon3 := DS.of_on (l := l) (by omega)
    have hok3 := hon3.1
    have hIl : InvS (DS.of l) (g + i) 16 := inv_same (S := S) (fun a ha => by
      show pgAt l a = pgAt S.V a
      rw [hl]; exact pgAt_app _ _ _ (by rw [hVl]; rcases (show a = 0 ∨ a = 1 from by clear hll hl; omega) with rfl | rfl <;> decide)) hI
    have hA3 : (DS.of l).A.length = 4352 := hll
    have hn : nwS (DS.of l) = (zeroS, 3) := inv_none hon3 (by rw [hA3]; decide) hIl (.inl (by rw [hA3]; decide))
    have hW3 : (DS.of l).W.length ≤ 1000000 := Nat.zero_le _
    ((with_reducible apply Tri.op); rfl; (with_reducible apply o_move); rfl; rfl; (with_reducible apply Tri.op); rfl; (with_reducible apply o_extract); rfl; rfl; rfl; (with_reducible apply Tri.op); rfl; (with_reducible apply o_extract); rfl; rfl; rfl; (with_reducible apply Tri.op); rfl; (with_reducible apply o_assign); rfl; rfl; (with_reducible apply Tri.op); rfl; (with_reducible apply o_assign); rfl; rfl; (with_reducible refine Tri.nil (Tri.thenN (Tri.seq (Tri.region ?_)))); (with_reducible apply Tri.op); rfl)
    ((with_reducible apply o_loadAll); (case hx => rfl); (case p => (repeat first | with_reducible exact Pull.head | apply Pull.tail)); (case hl => exact tabL_length); (case hn => rfl))
    ((with_reducible apply Tri.op); rfl; (with_reducible apply o_move); rfl; rfl; (with_reducible apply Tri.op); rfl)
    ((with_reducible apply o_callS (hs := super_Newest d2 (DS.of l) hok3 hW3)); (case hargs => (repeat first | exact evs.nil | (apply evs.cons; case a => rfl))); (case p => (repeat first | exact Pulls.nil | (apply Pulls.cons; repeat first | with_reducible exact Pull.head | apply Pull.tail))); (case hn => rfl))
    rintro r5 H5 ⟨rfl, rfl⟩
    rw [hn]
    (try dsimp only [List.cons_append, List.nil_append])
    ((with_reducible apply Tri.op); rfl; (with_reducible apply o_move); rfl; rfl; (with_reducible apply Tri.op); rfl; (with_reducible apply o_extract); rfl; rfl; rfl; (with_reducible apply Tri.op); rfl; (with_reducible apply o_extract); rfl; rfl; rfl; (with_reducible apply Tri.op); rfl)
    ((with_reducible apply o_alloc); (case hn => rfl); intro b16)
    ((with_reducible apply Tri.op); rfl)
    ((with_reducible apply o_storeAll (ys := spL zeroS)); (case hx => rfl); (case hy => rfl); (case p => (repeat first | with_reducible exact Pull.head | apply Pull.tail)); (case hl => rfl); (case hc => rfl); (case h1 => exact spL_one zeroS))
    ((with_reducible apply Tri.op); rfl; (with_reducible apply o_assign); rfl; rfl; (with_reducible refine Tri.nil (Tri.thenN (Tri.seq (Tri.region ?_)))); (with_reducible apply Tri.op); rfl)
    ((with_reducible apply o_callV (hs := law15_counts)); (case hargs => (repeat first | exact evs.nil | (apply evs.cons; case a => rfl))); (case hpre => exact fun _ _ => trivial); (case hn => rfl))
    ((with_reducible apply Tri.op); rfl; (with_reducible apply o_move); rfl; rfl; (with_reducible apply Tri.opYes); rfl; rfl; rfl; (with_reducible apply o_move); rfl; rfl; (with_reducible apply Tri.opYes); rfl; rfl; rfl; (with_reducible apply o_eql); rfl; rfl; rfl; (with_reducible apply Tri.op); rfl; (with_reducible apply o_pickT); (iterate 4 rfl); (with_reducible apply Tri.op); rfl; (with_reducible apply o_move); rfl; rfl)
    ((with_reducible apply Tri.setb 97 (true)); (case h => rfl); (case hi => rfl))
    ((with_reducible apply Tri.opYes); rfl; rfl; rfl; (with_reducible apply o_move); rfl; rfl; (with_reducible apply Tri.opYes); rfl; rfl; rfl; (with_reducible apply o_eql); rfl; rfl; rfl; (with_reducible apply Tri.op); rfl; (with_reducible apply o_pickT); (iterate 4 rfl); (with_reducible apply Tri.op); rfl; (with_reducible apply o_move); rfl; rfl)
    ((with_reducible apply Tri.setb 101 (true)); (case h => rfl); (case hi => rfl))
    ((with_reducible apply Tri.opYes); rfl; rfl; rfl; (with_reducible apply o_move); rfl; rfl; (with_reducible apply Tri.opYes); rfl; rfl; rfl; (with_reducible apply o_eql); rfl; rfl; rfl; (with_reducible apply Tri.op); rfl; (with_reducible apply o_pickT); (iterate 4 rfl); (with_reducible apply Tri.op); rfl; (with_reducible apply o_assign); rfl; rfl; (with_reducible refine Tri.nil (Tri.thenN (Tri.ret ?_))))
    ((with_reducible apply Tri.setb 4 (true)); (case h => rfl); (case hi => rfl))
    (first | with_reducible apply Tri.fin | with_reducible apply Tri.finN)
    case hr => rfl
    case h => exact ResL.cons (Res1.tmp rfl) ResL.nil
    exact fin_law (F := []) w (by (repeat first | exact Pulls.nil | (apply Pulls.cons; repeat first | with_reducible exact Pull.head | apply Pull.tail))) _ rfl
end Go.Proofs.Ytckdlfbbkemklaa
