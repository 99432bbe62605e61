/- node: of all bytes, bent ones among them, the node that is told has just these bytes; else there is an error: the walk. -/
import Derived.Test.YtmomlimhjnfadaaNdPutsWalk
namespace Go.Proofs.Ytmomlimhjnfadaa
open Go Go.RowKit Go.Gv
set_option linter.unusedVariables false
set_option linter.unusedSimpArgs false

theorem entsG_R {l : List UInt8} {n : Nat} (hl : l.length = 1 + n * 30) : ∀ e ∈ entsG l n, entR e := fun e he => by
  obtain ⟨k, hk, rfl⟩ := List.mem_map.1 he
  have hk' : k < n := List.mem_range.1 hk
  have hb : ∀ a m, a + m ≤ 30 → numB (((l.drop (1 + k * 30)).drop a).take m) < 256 ^ m := fun a m h => by
    have := numB_lt (((l.drop (1 + k * 30)).drop a).take m)
    rwa [show (((l.drop (1 + k * 30)).drop a).take m).length = m by rw [List.length_take, List.length_drop, List.length_drop]; omega] at this
  have q0 := hb 4 8 (by omega)
  have q1 := hb 12 8 (by omega)
  have q6 := hb 26 4 (by omega)
  refine ⟨?_, ?_, q6⟩
  · unfold i64R; simp only [entP]; unfold s64; split <;> omega
  · unfold i64R; simp only [entP]; unfold s64; split <;> omega
theorem getN_cases (lf : Bool) (l : List UInt8) : (getN lf l = ⟨false, [], [], [], 3⟩) ∨ ((getN lf l).e = 0 ∧ (getN lf l).leaf = lf ∧ rightN lf (getN lf l).E (getN lf l).K (getN lf l).D = true ∧ putN lf (getN lf l).E (getN lf l).K (getN lf l).D = l ∧ (∀ e ∈ (getN lf l).E, entR e) ∧ (getN lf l).E.length ≤ 16 ∧ (getN lf l).K.length ≤ 16 ∧ (getN lf l).D.length ≤ 16) := by
  cases lf
  · rw [getN, if_neg (by simp)]
    by_cases h1 : l.length = 0 ∨ l.length ≠ 1 + cntG l * 14
    · left; rw [getI, if_pos h1]
    · by_cases h2 : innerB (keysG l (cntG l)) (kidsG l (cntG l)) = true ∧ putI (keysG l (cntG l)) (kidsG l (cntG l)) = l
      · right
        have hg : getI l = ((keysG l (cntG l), kidsG l (cntG l)), 0) := by rw [getI, if_neg h1, if_pos h2]
        rw [hg]
        have hs := innerB_spec h2.1
        refine ⟨rfl, rfl, ?_, h2.2, fun e he => (nomatch he), Nat.zero_le _, by show (keysG l (cntG l)).length ≤ 16; omega, hs.2.2.2.2⟩
        rw [rightN, if_neg (by simp)]
        show (decide (([] : List ENT).length = 0) && innerB (keysG l (cntG l)) (kidsG l (cntG l))) = true
        rw [h2.1]; rfl
      · left; rw [getI, if_neg h1, if_neg h2]
  · rw [getN, if_pos rfl]
    by_cases h1 : l.length = 0 ∨ l.length ≠ 1 + cntG l * 30
    · left; rw [getL, if_pos h1]; rfl
    · by_cases h2 : leafB (entsG l (cntG l)) = true ∧ putL (entsG l (cntG l)) = l
      · right
        have hg : getL l = (entsG l (cntG l), 0) := by rw [getL, if_neg h1, if_pos h2]
        rw [hg]
        have hs := leaf_spec h2.1
        refine ⟨rfl, rfl, ?_, h2.2, entsG_R (by omega), by show (entsG l (cntG l)).length ≤ 16; omega, Nat.zero_le _, Nat.zero_le _⟩
        rw [rightN, if_pos rfl]
        show (decide (([] : List KEY).length = 0) && (decide (([] : List Int).length = 0) && leafB (entsG l (cntG l)))) = true
        rw [h2.1]; rfl
      · left; rw [getL, if_neg h1, if_neg h2]; rfl
theorem putN_len1 {leaf : Bool} {E : List ENT} {K : List KEY} {D : List Int} (h : rightN leaf E K D = true) : 1 ≤ (putN leaf E K D).length ∧ (putN leaf E K D).length ≤ 1000 := by
  cases leaf
  · rw [rightN, if_neg (by simp)] at h
    simp only [Bool.and_eq_true] at h
    have := innerB_spec h.2
    rw [show putN false E K D = putI K D from rfl, putI_length]; omega
  · rw [rightN, if_pos rfl] at h
    simp only [Bool.and_eq_true] at h
    have := leaf_spec h.2.2
    rw [show putN true E K D = putL E from rfl, putL_length]; omega
theorem rdw_or {w0 : World} {H H1 H2 : List Atom} {h1 h2 : PH} {v : Value} {n : Nat} {xs : List Value} (p1 : Pull H (Ex h1) H1) (p2 : Pull H (Ex h2) H2) (h : Rd h1 v n xs ∨ Rd h2 v n xs) : ∀ w, St w0 w H → RdW w v n xs := fun w hw => h.elim (fun g => rdw_ex p1 g w hw) (fun g => rdw_ex p2 g w hw)
theorem b8s' (l : List UInt8) (i : Nat) (c : UInt8) : (B8 l).set i (.int .u8 (c.toNat : Int)) = B8 (l.set i c) := by simp [B8, List.map_set]
theorem sub_take {h : PH} {v : Value} {l : List UInt8} (hr : Rd h v l.length (B8 l)) (k : Nat) (hk : k ≤ l.length) : Rd h (subv v 1 0 k) (l.take k).length (B8 (l.take k)) := by
  have := sub_rd' hr 0 k (by omega) hk
  rwa [List.drop_zero, Nat.sub_zero] at this
set_option maxHeartbeats 16000000 in
theorem nodeGets_walk (w : World) (leaf : Bool) (ev kv dv : Value) (E : List ENT) (Ks : List KEY) (D : List Int) (hr : ndR w ev kv dv E Ks D) (hR : ∀ e ∈ E, entR e) (x y : Int) (vb : Value) (lb : List UInt8) (hrb : RdW w vb lb.length (B8 lb)) :
    Calls Try.prog 4 #[ndW leaf ev kv dv, .agg [.int .i64 x, .int .i64 y].toArray, vb] w (Ret (LawR w)) := by
  obtain ⟨hr0, hr1, hr2⟩ := hr
  have hlb := hrb.le
  refine Calls.enter Try.func4 rfl rfl rfl (St.rebase w) ?_
  simp only [argSlots]
  ((with_reducible refine Tri.seq (Tri.region ?_)); (with_reducible apply Tri.op); rfl)
  (first | ((with_reducible apply o_boxA); (case hx => rfl); (case hn => rfl); intro b3) | ((with_reducible apply o_box1); (case hx => rfl); (case h1 => rfl); (case hn => rfl); intro b3))
  ((with_reducible apply Tri.op); rfl)
  (first | ((with_reducible apply o_boxA); (case hx => rfl); (case hn => rfl); intro b4) | ((with_reducible apply o_box1); (case hx => rfl); (case h1 => rfl); (case hn => rfl); intro b4))
  ((with_reducible apply Tri.op); rfl; (with_reducible apply o_assign); rfl; rfl; (with_reducible refine Tri.nil (Tri.thenN ?_)))
  ((with_reducible apply Tri.seqMeet (α := Σ' (u : Value) (B : List UInt8) (ok : Bool), ok = true → 1 ≤ B.length ∧ B.length ≤ 1000) (Lx := fun z => [(2, vb), (4, .pointer (some ⟨b4, 0, none⟩)), (7, z.1), (8, .bool z.2.2.1)]) (Hx := fun z => [own 5 1 z.1 z.2.1.length (B8 z.2.1), blk b4 62 [.int .i64 x, .int .i64 y], Ex (hp w)])); rotate_left; (rintro ⟨u, B, ok, hok⟩; (try dsimp only)); rotate_left)
  · ((with_reducible refine Tri.region ?_); (with_reducible apply Tri.op); rfl)
    ((with_reducible apply o_loadAll (cs := ndLL leaf ev kv dv)); (case hx => rfl); (case p => exact (by (first | ((repeat (first | with_reducible exact Pull.head | with_reducible apply Pull.tail)); done) | (repeat (first | exact Pull.head | apply Pull.tail))))); (case hl => rfl); (case hn => rfl))
    ((with_reducible apply Tri.op); rfl)
    by_cases hrt : rightN leaf E Ks D = true
    · ((with_reducible apply o_callR (hs := ref12_PutN leaf ev kv dv E Ks D hrt hR)); (case hargs => (repeat first | exact evs.nil | (apply evs.cons; case a => rfl))); (case hpre => exact ndR_ex (by (first | ((repeat (first | with_reducible exact Pull.head | with_reducible apply Pull.tail)); done) | (repeat (first | exact Pull.head | apply Pull.tail)))) hr0 hr1 hr2); (case hn => rfl))
      rintro r3 H3 ⟨u2, rfl, rfl⟩
      (try dsimp only [List.cons_append, List.nil_append])
      obtain ⟨B, hB⟩ : ∃ B, B = putN leaf E Ks D := ⟨_, rfl⟩
      have hBl : 1 ≤ B.length ∧ B.length ≤ 1000 := by rw [hB]; exact putN_len1 hrt
      rw [← hB]
      ((with_reducible apply Tri.op); rfl; (with_reducible apply o_move); rfl; rfl; (with_reducible apply Tri.op); rfl; (with_reducible apply o_extract); rfl; rfl; rfl; (with_reducible apply Tri.op); rfl; (with_reducible apply o_extract); rfl; rfl; rfl; (with_reducible apply Tri.op); rfl; (with_reducible apply o_assign); rfl; rfl; (with_reducible apply Tri.op); rfl; (with_reducible apply o_assign); rfl; rfl; (with_reducible refine Tri.nil (Tri.thenN ?_)))
      ((with_reducible apply Tri.reach (y := ⟨u2, B, true, fun _ => hBl⟩)); (case hL => ((try dsimp only); (repeat (first | exact trivial | refine And.intro (by rfl) ?_)))); (case p => ((try dsimp only); (repeat (first | exact Pulls.nil | (apply Pulls.cons; (case a => (first | ((repeat (first | with_reducible exact Gv.Pull.head | with_reducible apply Gv.Pull.tail)); done) | (repeat (first | exact Gv.Pull.head | apply Gv.Pull.tail))))))))))
    · ((with_reducible apply o_callV (hs := ref12_Put_no leaf ev kv dv E Ks D (by simpa using hrt))); (case hargs => (repeat first | exact evs.nil | (apply evs.cons; case a => rfl))); (case hpre => exact ndR_ex (by (first | ((repeat (first | with_reducible exact Pull.head | with_reducible apply Pull.tail)); done) | (repeat (first | exact Pull.head | apply Pull.tail)))) hr0 hr1 hr2); (case hn => rfl))
      ((with_reducible apply Tri.op); rfl; (with_reducible apply o_move); rfl; rfl; (with_reducible apply Tri.op); rfl; (with_reducible apply o_extract); rfl; rfl; rfl; (with_reducible apply Tri.op); rfl; (with_reducible apply o_extract); rfl; rfl; rfl; (with_reducible apply Tri.op); rfl; (with_reducible apply o_assign); rfl; rfl; (with_reducible apply Tri.op); rfl; (with_reducible apply o_assign); rfl; rfl; (with_reducible refine Tri.nil (Tri.thenN ?_)))
      (with_reducible apply Tri.ownNil 5 1)
      ((with_reducible apply Tri.eqA (A := own 5 1 (.slice none 0 0) 0 []) (B := own 5 1 (.slice none 0 0) ([] : List UInt8).length (B8 []))); (case p => (first | ((repeat (first | with_reducible exact Pull.head | with_reducible apply Pull.tail)); done) | (repeat (first | exact Pull.head | apply Pull.tail)))); (case e => rfl))
      ((with_reducible apply Tri.reach (y := ⟨.slice none 0 0, [], false, fun h => (nomatch h)⟩)); (case hL => ((try dsimp only); (repeat (first | exact trivial | refine And.intro (by rfl) ?_)))); (case p => ((try dsimp only); (repeat (first | exact Pulls.nil | (apply Pulls.cons; (case a => (first | ((repeat (first | with_reducible exact Gv.Pull.head | with_reducible apply Gv.Pull.tail)); done) | (repeat (first | exact Gv.Pull.head | apply Gv.Pull.tail))))))))))
  ((with_reducible apply Tri.seqMeet (α := Σ' (vw : Value) (lw : List UInt8) (h1 : PH), Rd h1 vw lw.length (B8 lw)) (Lx := fun z => [(2, vb), (7, z.1)]) (Hx := fun z => [Ex z.2.2.1, Ex (hp w)])); rotate_left; (rintro ⟨vw, lw, h1, hw1⟩; (try dsimp only)); rotate_left)
  · ((with_reducible refine Tri.seq (Tri.region ?_)); (with_reducible apply Tri.op); rfl; (with_reducible apply o_move); rfl; rfl; (with_reducible refine Tri.nil (Tri.thenN ?_)))
    ((with_reducible apply Tri.cond); (case hc => rfl); (all_goals intro hk))
    · have hBl := hok hk
      obtain ⟨k, hk0⟩ : ∃ k : Nat, (k : Int) = x % 18446744073709551616 % (B.length : Int) := ⟨(x % 18446744073709551616 % (B.length : Int)).toNat, by have := Int.emod_nonneg (x % 18446744073709551616) (show (B.length : Int) ≠ 0 by omega); omega⟩
      have hkl : k < B.length := by have := Int.emod_lt_of_pos (x % 18446744073709551616) (show (0 : Int) < (B.length : Int) by omega); omega
      ((with_reducible refine Tri.seq (Tri.region ?_)); (with_reducible apply Tri.op); rfl; (with_reducible apply o_ixArr (j := 0)); rfl; rfl; rfl; (first | omega | assumption); rfl; (with_reducible apply Tri.op); rfl; (with_reducible apply o_load); rfl; (focus (first | ((repeat (first | with_reducible exact Pull.head | with_reducible apply Pull.tail)); done) | (repeat (first | exact Pull.head | apply Pull.tail)))); rfl; rfl; (with_reducible apply Tri.op); rfl; (with_reducible apply o_conv64); rfl; rfl; (with_reducible apply Tri.op); rfl; (with_reducible apply o_move); rfl; rfl; (with_reducible apply Tri.op); rfl; (with_reducible apply o_lenOwn); rfl; (focus (first | ((repeat (first | with_reducible exact Pull.head | with_reducible apply Pull.tail)); done) | (repeat (first | exact Pull.head | apply Pull.tail)))); rfl; (with_reducible apply Tri.op); rfl; (with_reducible apply o_convI); rfl; rfl; (first | decide | (exact wrap_i64 (by omega)) | (exact wrap_u8 (by omega)) | (exact wrap_u16 (by omega)) | (exact wrap_u32 (by omega)) | (exact wrap_u64 (by omega))); (with_reducible apply Tri.op); rfl; (with_reducible apply o_rem); rfl; rfl; rfl; (omega); (omega); (with_reducible apply Tri.op); rfl; (with_reducible apply o_convI); rfl; rfl; (first | decide | (exact wrap_i64 (by omega)) | (exact wrap_u8 (by omega)) | (exact wrap_u16 (by omega)) | (exact wrap_u32 (by omega)) | (exact wrap_u64 (by omega))); (with_reducible apply Tri.op); rfl; (with_reducible apply o_assign); rfl; rfl; (with_reducible refine Tri.nil (Tri.thenN (Tri.seq (Tri.region ?_)))); (with_reducible apply Tri.op); rfl; (with_reducible apply o_ixArr (j := 1)); rfl; rfl; rfl; (first | omega | assumption); rfl; (with_reducible apply Tri.op); rfl; (with_reducible apply o_load); rfl; (focus (first | ((repeat (first | with_reducible exact Pull.head | with_reducible apply Pull.tail)); done) | (repeat (first | exact Pull.head | apply Pull.tail)))); rfl; rfl; (with_reducible apply Tri.op); rfl; (with_reducible apply o_remT); rfl; rfl; rfl; (omega); (with_reducible apply Tri.op); rfl; (with_reducible apply o_eql); rfl; rfl; rfl; (with_reducible refine Tri.nil (Tri.thenN ?_)))
      ((with_reducible apply Tri.seti 9 ((k : Int))); (case h => rfl); (case hi => (rw [hk0]; try rfl)))
      skip
      ((with_reducible apply Tri.condD); (case hc => rfl); (all_goals intro hcut))
      · ((with_reducible refine Tri.region ?_); (with_reducible apply Tri.op); rfl; (with_reducible apply o_move); rfl; rfl; (with_reducible apply Tri.op); rfl; (with_reducible apply o_move); rfl; rfl; (with_reducible apply Tri.op); rfl)
        ((with_reducible apply o_slice (lo := 0) (hi := k)); (case hx => rfl); (case hr => exact rdw_own (by (first | ((repeat (first | with_reducible exact Pull.head | with_reducible apply Pull.tail)); done) | (repeat (first | exact Pull.head | apply Pull.tail))))); (case hol => first | exact fun _ _ => rfl | exact fun a ha => congrArg some (ha.eval rfl)); (case hoh => first | exact fun _ _ => rfl | exact fun a ha => congrArg some (ha.eval rfl)); (case hlo => first | exact .inr ⟨rfl, rfl⟩ | exact .inl ⟨_, rfl⟩ | exact .inl ⟨_, (by congr 2; omega)⟩); (case hhi => first | exact .inr ⟨rfl, rfl⟩ | exact .inl ⟨_, rfl⟩ | exact .inl ⟨_, (by congr 2; omega)⟩); (case hlh => omega); (case hhm => omega); (case hn => rfl))
        ((with_reducible apply Tri.op); rfl; (with_reducible apply o_assign); rfl; rfl; (with_reducible refine Tri.nil (Tri.thenN ?_)))
        refine Tri.shut (e := 5) (size := 1) (v := u) (by (first | ((repeat (first | with_reducible exact Pull.head | with_reducible apply Pull.tail)); done) | (repeat (first | exact Pull.head | apply Pull.tail)))) (fun h1 ho => ?_)
        have hs := sub_take (own_Rd ho) k (by omega)
        ((with_reducible apply Tri.reach (y := ⟨subv u 1 0 k, B.take k, h1, hs⟩)); (case hL => ((try dsimp only); (repeat (first | exact trivial | refine And.intro (by rfl) ?_)))); (case p => ((try dsimp only); (repeat (first | exact Pulls.nil | (apply Pulls.cons; (case a => (first | ((repeat (first | with_reducible exact Gv.Pull.head | with_reducible apply Gv.Pull.tail)); done) | (repeat (first | exact Gv.Pull.head | apply Gv.Pull.tail))))))))))
      · refine Tri.unown (e := 5) (size := 1) (v := u) (by (first | ((repeat (first | with_reducible exact Pull.head | with_reducible apply Pull.tail)); done) | (repeat (first | exact Pull.head | apply Pull.tail)))) (by omega) (fun g cap rest hv hcap => ?_)
        subst hv
        obtain ⟨c, hc⟩ : ∃ c : UInt8, ((c.toNat : Nat) : Int) = y % 256 := ⟨UInt8.ofNat (y % 256).toNat, by rw [UInt8.toNat_ofNat']; omega⟩
        skip
        ((with_reducible apply Tri.quietTail 9); (case hB => kernel_rfl); (dsimp only [List.take, List.drop]))
        ((iterate 2 (first | ((with_reducible apply TriQ.op); rfl) | ((with_reducible apply TriQ.opYes); rfl; rfl; with_reducible rfl)); rfl; rfl; (intro K hK; (with_reducible apply o_move); rfl; rfl; exact hK)); (first | ((with_reducible apply TriQ.op); rfl) | ((with_reducible apply TriQ.opYes); rfl; rfl; with_reducible rfl)); rfl; rfl; (intro K hK; (with_reducible apply o_ixSl); rfl; rfl; (first | rfl | exact (Int.toNat_of_nonneg (by omega)).symm); (first | omega | assumption); rfl; exact hK))
        have hg : (B8 B ++ rest)[0 + k * 1]? = some (.int .u8 ((B.getD k 0).toNat : Int)) := by
          rw [Nat.zero_add, Nat.mul_one, List.getElem?_append_left (by rw [B8_length]; omega)]; exact get_or' _ _ hkl
        ((first | ((with_reducible apply TriQ.op); (case hg => rfl)) | ((with_reducible apply TriQ.opYes); (case hg => rfl); (case hy => rfl); (case hb => with_reducible rfl))); (case hd => rfl); (case hn => rfl); (case h => (intro K hK; ((with_reducible apply o_load); (case hx => rfl); (case p => (first | ((repeat (first | with_reducible exact Pull.head | with_reducible apply Pull.tail)); done) | (repeat (first | exact Pull.head | apply Pull.tail)))); (case hv => exact hg); (case hn => rfl)); exact hK)))
        ((first | ((with_reducible apply TriQ.op); rfl) | ((with_reducible apply TriQ.opYes); rfl; rfl; with_reducible rfl)); rfl; rfl; (intro K hK; (with_reducible apply o_ixArr (j := 1)); rfl; rfl; rfl; (first | omega | assumption); rfl; exact hK); (first | ((with_reducible apply TriQ.op); rfl) | ((with_reducible apply TriQ.opYes); rfl; rfl; with_reducible rfl)); rfl; rfl; (intro K hK; (with_reducible apply o_load); rfl; (focus (first | ((repeat (first | with_reducible exact Pull.head | with_reducible apply Pull.tail)); done) | (repeat (first | exact Pull.head | apply Pull.tail)))); rfl; rfl; exact hK); (first | ((with_reducible apply TriQ.op); rfl) | ((with_reducible apply TriQ.opYes); rfl; rfl; with_reducible rfl)); rfl; rfl; (intro K hK; (with_reducible apply o_conv8); rfl; rfl; exact hK); (first | ((with_reducible apply TriQ.op); rfl) | ((with_reducible apply TriQ.opYes); rfl; rfl; with_reducible rfl)); rfl; rfl; (intro K hK; (with_reducible apply o_xor); rfl; rfl; rfl; exact hK); (first | ((with_reducible apply TriQ.op); rfl) | ((with_reducible apply TriQ.opYes); rfl; rfl; with_reducible rfl)); rfl; rfl; (intro K hK; (with_reducible apply o_ixSl); rfl; rfl; (first | rfl | exact (Int.toNat_of_nonneg (by omega)).symm); (first | omega | assumption); rfl; exact hK); (with_reducible refine TriQ.nil ?_))
        have hxx : Go.bits .xor .u8 ((B.getD k 0).toNat : Int) (IntKind.u8.wrap y) = ((B.getD k 0 ^^^ c).toNat : Int) := by
          rw [show IntKind.u8.wrap y = ((c.toNat : Nat) : Int) from hc.symm, xor8]
        ((with_reducible apply Tri.seti 44 (((B.getD k 0 ^^^ c).toNat : Int))); (case h => rfl); (case hi => exact hxx))
        ((with_reducible apply Tri.op); (case hg => rfl))
        ((with_reducible apply o_store); (case hx => rfl); (case hy => rfl); (case h1 => rfl); (case p => (first | ((repeat (first | with_reducible exact Pull.head | with_reducible apply Pull.tail)); done) | (repeat (first | exact Pull.head | apply Pull.tail)))); (case hi => (rw [Nat.zero_add, Nat.mul_one, List.length_append, B8_length]; omega)))
        refine Tri.open (A := blk g 5 _) (by (first | ((repeat (first | with_reducible exact Pull.head | with_reducible apply Pull.tail)); done) | (repeat (first | exact Pull.head | apply Pull.tail)))) (fun h1 hb => ?_)
        have hcur : (B8 (B.set k (B.getD k 0 ^^^ c))) = ((B8 B ++ rest).set (0 + k * 1) (.int .u8 ((B.getD k 0 ^^^ c).toNat : Int))).take (B8 (B.set k (B.getD k 0 ^^^ c))).length := by
          rw [Nat.zero_add, Nat.mul_one, List.set_append_left _ _ (by rw [B8_length]; exact hkl), b8s', List.take_left' rfl]
        have hrd := blk_Rd (m := B.length) (cap := cap) hb (by omega) hcur.symm
        ((with_reducible refine Tri.nil (Tri.thenN ?_)))
        ((with_reducible apply Tri.reach (y := ⟨.slice (some ⟨g, 0, none⟩) B.length cap, B.set k (B.getD k 0 ^^^ c), h1, (by rw [List.length_set]; exact hrd)⟩)); (case hL => ((try dsimp only); (repeat (first | exact trivial | refine And.intro (by rfl) ?_)))); (case p => ((try dsimp only); (repeat (first | exact Pulls.nil | (apply Pulls.cons; (case a => (first | ((repeat (first | with_reducible exact Gv.Pull.head | with_reducible apply Gv.Pull.tail)); done) | (repeat (first | exact Gv.Pull.head | apply Gv.Pull.tail))))))))))
    · ((with_reducible refine Tri.skip (Tri.thenN ?_)))
      refine Tri.shut (e := 5) (size := 1) (v := u) (by (first | ((repeat (first | with_reducible exact Pull.head | with_reducible apply Pull.tail)); done) | (repeat (first | exact Pull.head | apply Pull.tail)))) (fun h1 ho => ?_)
      ((with_reducible apply Tri.reach (y := ⟨u, B, h1, own_Rd ho⟩)); (case hL => ((try dsimp only); (repeat (first | exact trivial | refine And.intro (by rfl) ?_)))); (case p => ((try dsimp only); (repeat (first | exact Pulls.nil | (apply Pulls.cons; (case a => (first | ((repeat (first | with_reducible exact Gv.Pull.head | with_reducible apply Gv.Pull.tail)); done) | (repeat (first | exact Gv.Pull.head | apply Gv.Pull.tail))))))))))
  · ((with_reducible refine Tri.seq (Tri.seq (Tri.region ?_))); (with_reducible apply Tri.op); rfl; (with_reducible apply o_assign); rfl; rfl; (with_reducible refine Tri.nil (Tri.thenN (Tri.block ?_))))
    ((with_reducible apply Tri.loop (α := { i : Nat // i ≤ 4 }) (m := fun x => 4 - x.1) (Lx := fun y => [(2, vb), (7, vw), (10, .int .i64 (y.1 : Int))]) (Hx := fun y => [Ex h1, Ex (hp w)]) (x0 := ⟨0, Nat.zero_le _⟩)); (case hL => ((try dsimp only); (repeat (first | exact trivial | refine And.intro (by rfl) ?_)))); (case hH => ((try dsimp only); apply St.all; (repeat (first | exact Pulls.nil | (apply Pulls.cons; (case a => (first | ((repeat (first | with_reducible exact Gv.Pull.head | with_reducible apply Gv.Pull.tail)); done) | (repeat (first | exact Gv.Pull.head | apply Gv.Pull.tail)))))))))); (rintro ⟨i, hi⟩ mx hmx; (try dsimp only at hmx ⊢))
    ((with_reducible refine Tri.seq (Tri.seq (Tri.region ?_))); (with_reducible apply Tri.op); rfl; (with_reducible apply o_move); rfl; rfl; (with_reducible apply Tri.op); rfl; (with_reducible apply o_lss); rfl; rfl; rfl; (with_reducible refine Tri.nil (Tri.thenN ?_)))
    ((with_reducible apply Tri.condD); (case hc => rfl); (all_goals intro h))
    · ((with_reducible refine Tri.skip (Tri.thenN ?_)))
      (with_reducible refine Tri.seq ?_)
      (with_reducible refine Tri.block ?_)
      (with_reducible refine Tri.seq ?_)
      ((with_reducible refine Tri.region ?_); (with_reducible apply Tri.op); rfl; (with_reducible apply o_move); rfl; rfl; (with_reducible apply Tri.op); rfl; (with_reducible apply o_assign); rfl; rfl; (with_reducible refine Tri.nil (Tri.thenN ?_)))
      ((with_reducible apply Tri.seqMeet (α := Σ' (vx : Value) (lx : List UInt8), (Rd h1 vx lx.length (B8 lx) ∨ Rd (hp w) vx lx.length (B8 lx))) (Lx := fun z => [(2, vb), (7, vw), (10, .int .i64 (i : Int)), (11, z.1)]) (Hx := fun z => [Ex h1, Ex (hp w)])); rotate_left; (rintro ⟨vx, lx, hx⟩; (try dsimp only)); rotate_left)
      · ((with_reducible refine Tri.seq (Tri.region ?_)); (with_reducible apply Tri.op); rfl; (with_reducible apply o_move); rfl; rfl; (with_reducible apply Tri.op); rfl; (with_reducible apply o_gtr); rfl; rfl; rfl; (with_reducible refine Tri.nil (Tri.thenN ?_)))
        ((with_reducible apply Tri.condD); (case hc => rfl); (all_goals intro h2))
        · ((with_reducible refine Tri.region ?_); (with_reducible apply Tri.op); rfl; (with_reducible apply o_move); rfl; rfl; (with_reducible apply Tri.op); rfl; (with_reducible apply o_move); rfl; rfl; (with_reducible apply Tri.op); rfl)
          ((with_reducible apply o_lenRd (hr := hrb)); (case hx => rfl); (case hn => rfl))
          ((with_reducible apply Tri.op); rfl; (with_reducible apply o_min); rfl; rfl; rfl; (with_reducible apply Tri.op); rfl)
          ((with_reducible apply Tri.seti 56 (((min lb.length 250 : Nat) : Int))); (case h => rfl); (case hi => (first | omega | (simp; omega))))
          ((with_reducible apply o_slice (lo := 0) (hi := min lb.length 250)); (case hx => rfl); (case hr => exact rdw_ex (by (first | ((repeat (first | with_reducible exact Pull.head | with_reducible apply Pull.tail)); done) | (repeat (first | exact Pull.head | apply Pull.tail)))) hrb); (case hol => first | exact fun _ _ => rfl | exact fun a ha => congrArg some (ha.eval rfl)); (case hoh => first | exact fun _ _ => rfl | exact fun a ha => congrArg some (ha.eval rfl)); (case hlo => first | exact .inr ⟨rfl, rfl⟩ | exact .inl ⟨_, rfl⟩ | exact .inl ⟨_, (by congr 2; omega)⟩); (case hhi => first | exact .inr ⟨rfl, rfl⟩ | exact .inl ⟨_, rfl⟩ | exact .inl ⟨_, (by congr 2; omega)⟩); (case hlh => omega); (case hhm => omega); (case hn => rfl))
          ((with_reducible apply Tri.op); rfl; (with_reducible apply o_assign); rfl; rfl; (with_reducible refine Tri.nil (Tri.thenN ?_)))
          ((with_reducible apply Tri.reach (y := ⟨subv vb 1 0 (min lb.length 250), lb.take (min lb.length 250), .inr (sub_take hrb _ (by omega))⟩)); (case hL => ((try dsimp only); (repeat (first | exact trivial | refine And.intro (by rfl) ?_)))); (case p => ((try dsimp only); (repeat (first | exact Pulls.nil | (apply Pulls.cons; (case a => (first | ((repeat (first | with_reducible exact Gv.Pull.head | with_reducible apply Gv.Pull.tail)); done) | (repeat (first | exact Gv.Pull.head | apply Gv.Pull.tail))))))))))
        · ((with_reducible refine Tri.skip (Tri.thenN ?_)))
          ((with_reducible apply Tri.reach (y := ⟨vw, lw, .inl hw1⟩)); (case hL => ((try dsimp only); (repeat (first | exact trivial | refine And.intro (by rfl) ?_)))); (case p => ((try dsimp only); (repeat (first | exact Pulls.nil | (apply Pulls.cons; (case a => (first | ((repeat (first | with_reducible exact Gv.Pull.head | with_reducible apply Gv.Pull.tail)); done) | (repeat (first | exact Gv.Pull.head | apply Gv.Pull.tail))))))))))
      · obtain ⟨lf, hlf⟩ : ∃ lf : Bool, lf = decide ((i : Int) % 2 = 0) := ⟨_, rfl⟩
        ((with_reducible refine Tri.seq (Tri.region ?_)); (with_reducible apply Tri.op); rfl; (with_reducible apply o_move); rfl; rfl; (with_reducible apply Tri.op); rfl; (with_reducible apply o_rem); rfl; rfl; rfl; (omega); (omega); (with_reducible apply Tri.op); rfl; (with_reducible apply o_eql); rfl; rfl; rfl; (with_reducible apply Tri.op); rfl; (with_reducible apply o_move); rfl; rfl; (with_reducible apply Tri.op); rfl)
        ((with_reducible apply Tri.setb 61 (lf)); (case h => rfl); (case hi => exact hlf.symm))
        skip
        ((with_reducible apply o_callR (hs := node_GetN lf vx lx)); (case hargs => (repeat first | exact evs.nil | (apply evs.cons; case a => rfl))); (case hpre => exact rdw_or (by (first | ((repeat (first | with_reducible exact Pull.head | with_reducible apply Pull.tail)); done) | (repeat (first | exact Pull.head | apply Pull.tail)))) (by (first | ((repeat (first | with_reducible exact Pull.head | with_reducible apply Pull.tail)); done) | (repeat (first | exact Pull.head | apply Pull.tail)))) hx); (case hn => rfl))
        rintro r2 H2 ⟨A, c, B1, d, C, e, rfl, rfl⟩
        (try dsimp only [List.cons_append, List.nil_append])
        rcases getN_cases lf lx with hg | ⟨g0, g1, g2, g3, g4, g5, g6, g7⟩
        · simp only [hg]
          ((with_reducible apply Tri.op); rfl; (with_reducible apply o_move); rfl; rfl; (with_reducible apply Tri.op); rfl; (with_reducible apply o_extract); rfl; rfl; rfl; (with_reducible apply Tri.op); rfl; (with_reducible apply o_extract); rfl; rfl; rfl; (with_reducible apply Tri.op); rfl)
          ((with_reducible apply o_alloc); (case hn => rfl); intro b12)
          ((with_reducible apply Tri.op); rfl)
          ((with_reducible apply o_storeAll (ys := ndLL false (.slice A ([] : List ENT).length c) (.slice B1 ([] : List KEY).length d) (.slice C ([] : List Int).length e))); (case hx => rfl); (case hy => rfl); (case p => (first | ((repeat (first | with_reducible exact Pull.head | with_reducible apply Pull.tail)); done) | (repeat (first | exact Pull.head | apply Pull.tail)))); (case hl => rfl); (case hc => rfl); (case h1 => exact ndLL_one false A B1 C _ c _ d _ e))
          ((with_reducible apply Tri.op); rfl; (with_reducible apply o_assign); rfl; rfl; (with_reducible refine Tri.nil (Tri.thenN (Tri.seq (Tri.seq (Tri.region ?_))))); (with_reducible apply Tri.op); rfl; (with_reducible apply o_move); rfl; rfl; (with_reducible apply Tri.op); rfl; (with_reducible apply o_neq); rfl; rfl; rfl; (with_reducible refine Tri.nil (Tri.thenN ?_)))
          ((with_reducible apply Tri.setb 67 (true)); (case h => rfl); (case hi => rfl))
          ((with_reducible apply Tri.condT); rfl; rfl; (with_reducible refine Tri.seq (Tri.seq (Tri.region ?_))); (with_reducible apply Tri.op); rfl; (with_reducible apply o_move); rfl; rfl; (with_reducible apply Tri.op); rfl; (with_reducible apply o_neq); rfl; rfl; rfl; (with_reducible apply Tri.op); rfl; (with_reducible apply o_move); rfl; rfl)
          ((with_reducible apply Tri.setb 70 (false)); (case h => rfl); (case hi => rfl))
          ((with_reducible apply Tri.opYes); rfl; rfl; rfl)
          ((with_reducible apply o_loadAll (cs := ndLL false (.slice A ([] : List ENT).length c) (.slice B1 ([] : List KEY).length d) (.slice C ([] : List Int).length e))); (case hx => rfl); (case p => exact (by (first | ((repeat (first | with_reducible exact Pull.head | with_reducible apply Pull.tail)); done) | (repeat (first | exact Pull.head | apply Pull.tail))))); (case hl => rfl); (case hn => rfl))
          ((with_reducible apply Tri.opYes); rfl; rfl; rfl)
          ((with_reducible apply o_callV (hs := node_Size false (.slice A ([] : List ENT).length c) (.slice B1 ([] : List KEY).length d) (.slice C ([] : List Int).length e) [] [] [])); (case hargs => (repeat first | exact evs.nil | (apply evs.cons; case a => rfl))); (case hpre => exact ndR_own (by (first | ((repeat (first | with_reducible exact Pull.head | with_reducible apply Pull.tail)); done) | (repeat (first | exact Pull.head | apply Pull.tail)))) (by (first | ((repeat (first | with_reducible exact Pull.head | with_reducible apply Pull.tail)); done) | (repeat (first | exact Pull.head | apply Pull.tail)))) (by (first | ((repeat (first | with_reducible exact Pull.head | with_reducible apply Pull.tail)); done) | (repeat (first | exact Pull.head | apply Pull.tail))))); (case hn => rfl))
          ((with_reducible apply Tri.opYes); rfl; rfl; rfl; (with_reducible apply o_neq); rfl; rfl; rfl; (with_reducible apply Tri.op); rfl; (with_reducible apply o_pickF); (iterate 4 rfl); (with_reducible refine Tri.nil (Tri.thenN ?_)))
          ((with_reducible apply Tri.setb 74 (false)); (case h => rfl); (case hi => rfl))
          ((with_reducible apply Tri.condF); rfl; rfl; (with_reducible refine Tri.skip (Tri.thenN (Tri.exit (Tri.thenE (Tri.blockE (Tri.thenN (Tri.region ?_))))))); (with_reducible apply Tri.op); rfl; (with_reducible apply o_move); rfl; rfl; (with_reducible apply Tri.op); rfl; (with_reducible apply o_add64); rfl; rfl; rfl; (omega); (with_reducible apply Tri.op); rfl; (with_reducible apply o_assign); rfl; rfl; (with_reducible refine Tri.nil (Tri.thenN ?_)))
          ((with_reducible apply Tri.again (y := ⟨i + 1, by omega⟩)); (case p => ((try dsimp only); (repeat (first | exact Pulls.nil | (apply Pulls.cons; (case a => (first | ((repeat (first | with_reducible exact Gv.Pull.head | with_reducible apply Gv.Pull.tail)); done) | (repeat (first | exact Gv.Pull.head | apply Gv.Pull.tail))))))))); (case hm => ((try dsimp only); omega)); (try dsimp only))
          (repeat (first | exact trivial | refine And.intro (by rfl) ?_))
        · obtain ⟨⟨lf', E', K', D', e'⟩, hG⟩ : ∃ G, G = getN lf lx := ⟨_, rfl⟩
          rw [← hG] at g0 g1 g2 g3 g4 g5 g6 g7 ⊢
          dsimp only at g0 g1 g2 g3 g4 g5 g6 g7 ⊢
          subst g0; subst g1
          ((with_reducible apply Tri.op); rfl; (with_reducible apply o_move); rfl; rfl; (with_reducible apply Tri.op); rfl; (with_reducible apply o_extract); rfl; rfl; rfl; (with_reducible apply Tri.op); rfl; (with_reducible apply o_extract); rfl; rfl; rfl; (with_reducible apply Tri.op); rfl)
          ((with_reducible apply o_alloc); (case hn => rfl); intro b12)
          ((with_reducible apply Tri.op); rfl)
          ((with_reducible apply o_storeAll (ys := ndLL lf' (.slice A E'.length c) (.slice B1 K'.length d) (.slice C D'.length e))); (case hx => rfl); (case hy => rfl); (case p => (first | ((repeat (first | with_reducible exact Pull.head | with_reducible apply Pull.tail)); done) | (repeat (first | exact Pull.head | apply Pull.tail)))); (case hl => rfl); (case hc => rfl); (case h1 => exact ndLL_one lf' A B1 C _ c _ d _ e))
          ((with_reducible apply Tri.op); rfl; (with_reducible apply o_assign); rfl; rfl; (with_reducible refine Tri.nil (Tri.thenN (Tri.seq (Tri.seq (Tri.region ?_))))); (with_reducible apply Tri.op); rfl; (with_reducible apply o_move); rfl; rfl; (with_reducible apply Tri.op); rfl; (with_reducible apply o_neq); rfl; rfl; rfl; (with_reducible refine Tri.nil (Tri.thenN ?_)))
          ((with_reducible apply Tri.setb 67 (false)); (case h => rfl); (case hi => rfl))
          ((with_reducible apply Tri.condF); rfl; rfl; (with_reducible refine Tri.skip (Tri.thenN (Tri.seq (Tri.region ?_)))); (with_reducible apply Tri.op); rfl)
          ((with_reducible apply o_loadAll (cs := ndLL lf' (.slice A E'.length c) (.slice B1 K'.length d) (.slice C D'.length e))); (case hx => rfl); (case p => exact (by (first | ((repeat (first | with_reducible exact Pull.head | with_reducible apply Pull.tail)); done) | (repeat (first | exact Pull.head | apply Pull.tail))))); (case hl => rfl); (case hn => rfl))
          ((with_reducible apply Tri.op); rfl)
          ((with_reducible apply o_callR (hs := law12_From lf' (.slice A E'.length c) (.slice B1 K'.length d) (.slice C D'.length e) E' K' D' (by omega) (by omega) (by omega))); (case hargs => (repeat first | exact evs.nil | (apply evs.cons; case a => rfl))); (case hpre => exact ndR_own (by (first | ((repeat (first | with_reducible exact Pull.head | with_reducible apply Pull.tail)); done) | (repeat (first | exact Pull.head | apply Pull.tail)))) (by (first | ((repeat (first | with_reducible exact Pull.head | with_reducible apply Pull.tail)); done) | (repeat (first | exact Pull.head | apply Pull.tail)))) (by (first | ((repeat (first | with_reducible exact Pull.head | with_reducible apply Pull.tail)); done) | (repeat (first | exact Pull.head | apply Pull.tail))))); (case hn => rfl))
          rintro r3 H3 ⟨A2, c2, B2, d2, C2, e2, rfl, rfl⟩
          (try dsimp only [List.cons_append, List.nil_append])
          ((with_reducible apply Tri.op); rfl)
          ((with_reducible apply o_callR (hs := ref12_PutN lf' (.slice A2 E'.length c2) (.slice B2 K'.length d2) (.slice C2 D'.length e2) E' K' D' g2 g4)); (case hargs => (repeat first | exact evs.nil | (apply evs.cons; case a => rfl))); (case hpre => exact ndR_own (by (first | ((repeat (first | with_reducible exact Pull.head | with_reducible apply Pull.tail)); done) | (repeat (first | exact Pull.head | apply Pull.tail)))) (by (first | ((repeat (first | with_reducible exact Pull.head | with_reducible apply Pull.tail)); done) | (repeat (first | exact Pull.head | apply Pull.tail)))) (by (first | ((repeat (first | with_reducible exact Pull.head | with_reducible apply Pull.tail)); done) | (repeat (first | exact Pull.head | apply Pull.tail))))); (case hn => rfl))
          rintro r4 H4 ⟨u4, rfl, rfl⟩
          (try dsimp only [List.cons_append, List.nil_append])
          rw [g3]
          ((with_reducible apply Tri.op); rfl; (with_reducible apply o_move); rfl; rfl; (with_reducible apply Tri.op); rfl; (with_reducible apply o_extract); rfl; rfl; rfl; (with_reducible apply Tri.op); rfl; (with_reducible apply o_extract); rfl; rfl; rfl; (with_reducible apply Tri.op); rfl; (with_reducible apply o_assign); rfl; rfl; (with_reducible apply Tri.op); rfl; (with_reducible apply o_assign); rfl; rfl; (with_reducible refine Tri.nil (Tri.thenN (Tri.seq (Tri.region ?_)))); (with_reducible apply Tri.op); rfl; (with_reducible apply o_move); rfl; rfl; (with_reducible apply Tri.op); rfl; (with_reducible apply o_not); rfl; rfl; (with_reducible apply Tri.op); rfl; (with_reducible apply o_move); rfl; rfl)
          ((with_reducible apply Tri.setb 83 (false)); (case h => rfl); (case hi => rfl))
          ((with_reducible apply Tri.opYes); rfl; rfl; rfl; (with_reducible apply o_fieldAddr); rfl; rfl; (with_reducible apply Tri.opYes); rfl; rfl; rfl; (with_reducible apply o_load); rfl; (focus (first | ((repeat (first | with_reducible exact Pull.head | with_reducible apply Pull.tail)); done) | (repeat (first | exact Pull.head | apply Pull.tail)))); rfl; rfl; (with_reducible apply Tri.opYes); rfl; rfl; rfl; (with_reducible apply o_move); rfl; rfl; (with_reducible apply Tri.opYes); rfl; rfl; rfl; (with_reducible apply o_rem); rfl; rfl; rfl; (omega); (omega); (with_reducible apply Tri.opYes); rfl; rfl; rfl; (with_reducible apply o_eql); rfl; rfl; rfl; (with_reducible apply Tri.opYes); rfl; rfl; rfl; (with_reducible apply o_neqB); rfl; rfl; rfl; (with_reducible apply Tri.op); rfl; (with_reducible apply o_pickF); (iterate 4 rfl); (with_reducible apply Tri.op); rfl; (with_reducible apply o_move); rfl; rfl)
          ((with_reducible apply Tri.setb 91 (false)); (case h => rfl); (case hi => (rw [← hlf]; cases lf' <;> rfl)))
          ((with_reducible apply Tri.opYes); rfl; rfl; rfl; (with_reducible apply o_move); rfl; rfl; (with_reducible apply Tri.opYes); rfl; rfl; rfl)
          ((with_reducible apply o_bytesStr (l := lx)); (case he => exact Try.underlying5); (case hx => rfl); (case hr => exact rdw_own (v := u4) (by (first | ((repeat (first | with_reducible exact Pull.head | with_reducible apply Pull.tail)); done) | (repeat (first | exact Pull.head | apply Pull.tail))))); (case hn => rfl))
          ((with_reducible apply Tri.opYes); rfl; rfl; rfl; (with_reducible apply o_move); rfl; rfl; (with_reducible apply Tri.opYes); rfl; rfl; rfl)
          ((with_reducible apply o_bytesStr (l := lx)); (case he => exact Try.underlying5); (case hx => rfl); (case hr => exact rdw_or (by (first | ((repeat (first | with_reducible exact Pull.head | with_reducible apply Pull.tail)); done) | (repeat (first | exact Pull.head | apply Pull.tail)))) (by (first | ((repeat (first | with_reducible exact Pull.head | with_reducible apply Pull.tail)); done) | (repeat (first | exact Pull.head | apply Pull.tail)))) hx); (case hn => rfl))
          ((with_reducible apply Tri.opYes); rfl; rfl; rfl; (with_reducible apply o_neqS); rfl; rfl; rfl; (with_reducible apply Tri.op); rfl; (with_reducible apply o_pickF); (iterate 4 rfl); (with_reducible refine Tri.nil (Tri.thenN ?_)))
          ((with_reducible apply Tri.setb 97 (false)); (case h => rfl); (case hi => simp))
          ((with_reducible apply Tri.condF); rfl; rfl; (with_reducible refine Tri.skip (Tri.blockN (Tri.thenN (Tri.region ?_)))); (with_reducible apply Tri.op); rfl; (with_reducible apply o_move); rfl; rfl; (with_reducible apply Tri.op); rfl; (with_reducible apply o_add64); rfl; rfl; rfl; (omega); (with_reducible apply Tri.op); rfl; (with_reducible apply o_assign); rfl; rfl; (with_reducible refine Tri.nil (Tri.thenN ?_)))
          ((with_reducible apply Tri.again (y := ⟨i + 1, by omega⟩)); (case p => ((try dsimp only); (repeat (first | exact Pulls.nil | (apply Pulls.cons; (case a => (first | ((repeat (first | with_reducible exact Gv.Pull.head | with_reducible apply Gv.Pull.tail)); done) | (repeat (first | exact Gv.Pull.head | apply Gv.Pull.tail))))))))); (case hm => ((try dsimp only); omega)); (try dsimp only))
          (repeat (first | exact trivial | refine And.intro (by rfl) ?_))
    · ((with_reducible refine Tri.exit (Tri.thenE (Tri.thenE (Tri.blockE (Tri.thenN (Tri.seq (Tri.region ?_))))))); (with_reducible apply Tri.op); rfl)
      ((with_reducible apply o_callV (hs := law12_puts)); (case hargs => (repeat first | exact evs.nil | (apply evs.cons; case a => rfl))); (case hpre => exact fun _ _ => trivial); (case hn => rfl))
      ((with_reducible apply Tri.op); rfl; (with_reducible apply o_assign); rfl; rfl; (with_reducible refine Tri.nil (Tri.thenN (Tri.ret ?_))))
      (first | with_reducible apply Tri.fin | with_reducible apply Tri.finN)
      case hr => rfl
      case h => exact ResL.cons (Res1.tmp rfl) ResL.nil
      exact fin_law (F := []) w (by (repeat (first | exact Pulls.nil | (apply Pulls.cons; (case a => (first | ((repeat (first | with_reducible exact Gv.Pull.head | with_reducible apply Gv.Pull.tail)); done) | (repeat (first | exact Gv.Pull.head | apply Gv.Pull.tail)))))))) _ rfl
end Go.Proofs.Ytmomlimhjnfadaa
