/- page: a page that is written is read at its place, as its kind, and nowhere else; raw bytes, too: the walk. -/
import Derived.Test.YtmomlimhjnfadaaPgMovesWalk
namespace Go.Proofs.Ytmomlimhjnfadaa
open Go Go.RowKit Go.Gv
set_option linter.unusedVariables false
set_option linter.unusedSimpArgs false

theorem putAt_read (A : List UInt8) (i : Nat) (b : List UInt8) (m : Nat) (hi : i ≤ A.length) (hm : m ≤ b.length) : ((putAt A i b).drop i).take m = b.take m := by
  unfold putAt
  rw [List.append_assoc, List.drop_append_of_le_length (by rw [List.length_take]; omega), List.drop_of_length_le (List.length_take_le _ _), List.nil_append, List.take_append_of_le_length hm]
theorem getP_noughts : getP (List.replicate 256 0) = (zeroP, 3) := by
  have hl : lenP (List.replicate 256 0) = 0 := by decide
  have hk : (gotP (List.replicate 256 0) 0).k = 0 := by decide
  rw [getP, if_neg (by rw [List.length_replicate]; simp), hl, if_neg (by simp), if_neg (fun h => ?_)]
  have := (okP_spec h.1).1
  rw [hk] at this
  exact absurd this (by decide)
theorem pgAt_new (k a : Nat) (h : a < k) : pgAt (DS.new k).V a = List.replicate 256 0 := by
  show ((List.replicate (k * 256) (0 : UInt8)).drop (a * 256)).take 256 = _
  rw [List.drop_replicate, List.take_replicate, Nat.min_eq_left (by omega)]
theorem page_ReadRaw_neg (p : Nat) (S : DS) (addr n : Int) (h : n < 0) : SpecR Try.prog 56 #[.pointer (some ⟨p, 0, none⟩), .int .i64 addr, .int .i64 n] (fun _ => True) (fun r H' => r = .tuple #[.slice none 0 0, .int .i64 1] ∧ H' = []) := by
  refine SpecR.of (fun w _ => ?_)
  refine Calls.enter Try.func56 rfl rfl rfl (St.rebase w) ?_
  simp only [argSlots]
  ((with_reducible refine Tri.seq (Tri.region ?_)); (with_reducible apply Tri.op); rfl; (with_reducible apply o_assign); rfl; rfl; (with_reducible apply Tri.op); rfl; (with_reducible apply o_assign); rfl; rfl; (with_reducible refine Tri.nil (Tri.thenN (Tri.seq (Tri.seq (Tri.region ?_))))); (with_reducible apply Tri.op); rfl; (with_reducible apply o_move); rfl; rfl; (with_reducible apply Tri.op); rfl; (with_reducible apply o_lss); rfl; rfl; rfl; (with_reducible refine Tri.nil (Tri.thenN ?_)))
  ((with_reducible apply Tri.setb 13 (true)); (case h => rfl); (case hi => (rw [decide_eq_true]; omega)))
  ((with_reducible apply Tri.condT); rfl; rfl; (with_reducible refine Tri.seq (Tri.region ?_)); (with_reducible apply Tri.op); rfl; (with_reducible apply o_assign); rfl; rfl; (with_reducible apply Tri.op); rfl; (with_reducible apply o_assign); rfl; rfl; (with_reducible refine Tri.nil (Tri.thenN (Tri.ret (Tri.thenR ?_)))))
  ((first | with_reducible apply Tri.fin | with_reducible apply Tri.finN); (case hr => rfl); (case h => exact ResL.cons (Res1.tmp rfl) (ResL.cons (Res1.tmp rfl) (ResL.nil))); (apply fin_R (Hn := [])); (case p => exact (by (repeat (first | exact Pulls.nil | (apply Pulls.cons; (case a => (first | ((repeat (first | with_reducible exact Gv.Pull.head | with_reducible apply Gv.Pull.tail)); done) | (repeat (first | exact Gv.Pull.head | apply Gv.Pull.tail))))))))); exact ⟨by simp only [tupled]; done, rfl⟩)
theorem sub_from {h : PH} {v : Value} {l : List UInt8} (hr : Rd h v l.length (B8 l)) (m : Nat) (hm : m ≤ l.length) : Rd h (subv v 1 0 m) (l.take m).length (B8 (l.take m)) := by
  have q := hr.subv (size := 1) (lo := 0) (hi := m) (by omega) hm
  have e : (l.take m).length = m := by rw [List.length_take]; omega
  have e2 : B8 (l.take m) = ((B8 l).drop (0 * 1)).take ((m - 0) * 1) := by simp [B8, List.map_take]
  rw [e, e2]; exact q
theorem wrs_beyond {S : DS} {i : Int} (h : mayE S.off S.A.length i ≠ 0) (b : List UInt8) (bs : List (List UInt8)) : S.wrs i (b :: bs) = (S, mayE S.off S.A.length i) := by
  have e : S.wr i b = (S, mayE S.off S.A.length i) := by rw [DS.wr, if_pos h]
  show (if (S.wr i b).2 = 0 then (S.wr i b).1.wrs (i + 1) bs else S.wr i b) = _
  rw [e, if_neg h]
theorem secs_cons (b : List UInt8) (k : Nat) : ∃ c cs, secs b (k + 1) = c :: cs := by
  unfold secs
  rw [List.range_succ_eq_map]
  exact ⟨_, _, rfl⟩
/-- raw bytes that are written, and read -/
theorem raw_back {S : DS} (h : S.on) (a : Nat) (b : List UInt8) (ha : a * 256 + (padB b).length ≤ S.A.length) :
    (S.wrs ((a : Int) * 4) (secs (padB b) ((padB b).length / 64))).2 = 0 ∧ (S.wrs ((a : Int) * 4) (secs (padB b) ((padB b).length / 64))).1.on ∧ (S.wrs ((a : Int) * 4) (secs (padB b) ((padB b).length / 64))).1.A = S.A
      ∧ (S.wrs ((a : Int) * 4) (secs (padB b) ((padB b).length / 64))).1.V = putAt S.V (a * 256) (padB b) ∧ (S.wrs ((a : Int) * 4) (secs (padB b) ((padB b).length / 64))).1.W.length ≤ S.W.length + (padB b).length / 64 := by
  have hm := padB_mod b
  have h1 := DS.wrs_V h.1 (a * 4) (padB b) h.2.1 h.2.2 ((padB b).length / 64) (by omega) (by omega)
  have h2 := DS.wrs_len (secs (padB b) ((padB b).length / 64)) S ((a : Int) * 4)
  have e : ((a * 4 : Nat) : Int) = (a : Int) * 4 := by omega
  rw [e] at h1
  rw [secs_length] at h2
  refine ⟨h1.1, ⟨DS.wrs_ok _ _ h.1, h1.2.1, h1.2.2.1⟩, h2.2, ?_, h2.1⟩
  rw [h1.2.2.2, show a * 4 * 64 = a * 256 by omega, List.take_of_length_le (by omega)]
theorem padB_take (b : List UInt8) : (padB b).take b.length = b := by unfold padB; rw [List.take_left]
set_option maxRecDepth 4000 in
set_option maxHeartbeats 16000000 in
theorem pageDisks_walk (w : World) (p : PG) (hg : p.g < 18446744073709551616) (A : Option Addr) (c : Nat) (hr : RdW w (.slice A p.b.length c) p.b.length (B8 p.b)) (kind : UInt8) (vb : Value) (lb : List UInt8) (hrb : RdW w vb lb.length (B8 lb)) :
    Calls Try.prog 10 #[pgV p (.slice A p.b.length c), .int .u8 (kind.toNat : Int), vb] w (Ret (LawR w)) := by
  have hlb := hrb.le
  refine Calls.enter Try.func10 rfl rfl rfl (St.rebase w) ?_
  simp only [argSlots]
  ((with_reducible refine Tri.seq (Tri.region ?_)); (with_reducible apply Tri.op); rfl)
  (first | ((with_reducible apply o_boxA); (case hx => rfl); (case hn => rfl); intro b3) | ((with_reducible apply o_box1); (case hx => rfl); (case h1 => rfl); (case hn => rfl); intro b3))
  ((with_reducible apply Tri.op); rfl; (with_reducible apply o_assign); rfl; rfl; (with_reducible refine Tri.nil (Tri.thenN (Tri.seq (Tri.region ?_)))); (with_reducible apply Tri.op); rfl)
  ((with_reducible apply o_callV (hs := crc_New)); (case hargs => (repeat first | exact evs.nil | (apply evs.cons; case a => rfl))); (case hpre => exact fun _ _ => trivial); (case hn => rfl))
  ((with_reducible apply Tri.op); rfl)
  ((with_reducible apply o_alloc); (case hn => rfl); intro b7)
  ((with_reducible apply Tri.op); rfl)
  ((with_reducible apply o_storeAll); (case hx => rfl); (case hy => rfl); (case p => (first | ((repeat (first | with_reducible exact Pull.head | with_reducible apply Pull.tail)); done) | (repeat (first | exact Pull.head | apply Pull.tail)))); (case hl => exact tabL_length); (case hc => exact List.length_replicate); (case h1 => exact tabL_one))
  ((with_reducible refine Tri.nil (Tri.thenN (Tri.seq (Tri.region ?_)))); (with_reducible apply Tri.op); rfl)
  ((with_reducible apply o_callR (hs := disk_NewD 16 (by omega))); (case hargs => (repeat first | exact evs.nil | (apply evs.cons; case a => rfl))); (case hpre => exact fun _ _ => trivial); (case hn => rfl))
  rintro r1 H1 ⟨d, rfl, rfl⟩
  (try dsimp only [List.cons_append, List.nil_append])
  ((with_reducible apply Tri.op); rfl; (with_reducible apply o_move); rfl; rfl; (with_reducible apply Tri.op); rfl; (with_reducible apply o_extract); rfl; rfl; rfl; (with_reducible apply Tri.op); rfl; (with_reducible apply o_extract); rfl; rfl; rfl; (with_reducible apply Tri.op); rfl; (with_reducible apply o_assign); rfl; rfl; (with_reducible apply Tri.op); rfl; (with_reducible apply o_assign); rfl; rfl; (with_reducible refine Tri.nil (Tri.thenN (Tri.seq (Tri.region ?_)))); (with_reducible apply Tri.op); rfl; (with_reducible apply o_fieldAddr); rfl; rfl; (with_reducible apply Tri.op); rfl; (with_reducible apply o_load); rfl; (focus (first | ((repeat (first | with_reducible exact Pull.head | with_reducible apply Pull.tail)); done) | (repeat (first | exact Pull.head | apply Pull.tail)))); rfl; rfl; (with_reducible apply Tri.op); rfl; (with_reducible apply o_conv64); rfl; rfl; (with_reducible apply Tri.op); rfl; (with_reducible apply o_rem); rfl; rfl; rfl; (omega); (omega); (with_reducible apply Tri.op); rfl; (with_reducible apply o_convI); rfl; rfl; (first | decide | (exact wrap_i64 (by omega)) | (exact wrap_u8 (by omega)) | (exact wrap_u16 (by omega)) | (exact wrap_u32 (by omega)) | (exact wrap_u64 (by omega))); (with_reducible apply Tri.op); rfl; (with_reducible apply o_fieldAddr); rfl; rfl; (with_reducible apply Tri.op); rfl)
  obtain ⟨a, ha⟩ : ∃ a : Nat, (a : Int) = p.a % 18446744073709551616 % 16 := ⟨(p.a % 18446744073709551616 % 16).toNat, by omega⟩
  have ha16 : a < 16 := by omega
  ((with_reducible apply Tri.seti 37 ((a : Int))); (case h => rfl); (case hi => omega))
  ((with_reducible apply o_store); rfl; rfl; rfl; (focus (first | ((repeat (first | with_reducible exact Pull.head | with_reducible apply Pull.tail)); done) | (repeat (first | exact Pull.head | apply Pull.tail)))); (exact Nat.le_of_ble_eq_true rfl); (with_reducible refine Tri.nil (Tri.thenN (Tri.seq (Tri.region ?_)))); (with_reducible apply Tri.op); rfl)
  ((with_reducible apply Tri.eqA (A := blk b3 96 _) (B := blk b3 96 (pgL (mvP p a) (.slice A p.b.length c)))); (case p => (first | ((repeat (first | with_reducible exact Pull.head | with_reducible apply Pull.tail)); done) | (repeat (first | exact Pull.head | apply Pull.tail)))); (case e => rfl))
  skip
  ((with_reducible apply o_loadAll (cs := pgL (mvP p a) (.slice A p.b.length c))); (case hx => rfl); (case p => exact (by (first | ((repeat (first | with_reducible exact Pull.head | with_reducible apply Pull.tail)); done) | (repeat (first | exact Pull.head | apply Pull.tail))))); (case hl => rfl); (case hn => rfl))
  ((with_reducible apply Tri.op); rfl)
  have hgm : (mvP p a).g < 18446744073709551616 := hg
  have hrm : Rd (hp w) (.slice A p.b.length c) (mvP p a).b.length (B8 (mvP p a).b) := hr
  have hok0 := DS.new_ok 16 (by omega)
  have hon := DS.new_on 16 (by omega)
  have hAl : (DS.new 16).A.length = 4096 := DS.new_len 16
  have hWl : (DS.new 16).W.length = 0 := by rw [DS.new_W]; rfl
  by_cases hok : okP (mvP p a) = true
  · have hpl := putP_length (mvP p a) (okP_spec hok).2.2.2
    have hget := get_put (mvP p a) hok hgm
    ((with_reducible apply o_callR (hs := ref03_Put (mvP p a) (.slice A p.b.length c) hok hgm)); (case hargs => (repeat first | exact evs.nil | (apply evs.cons; case a => rfl))); (case hpre => exact rdw_ex (by (first | ((repeat (first | with_reducible exact Pull.head | with_reducible apply Pull.tail)); done) | (repeat (first | exact Pull.head | apply Pull.tail)))) hr); (case hn => rfl))
    rintro r2 H2 ⟨g, rfl, rfl⟩
    (try dsimp only [List.cons_append, List.nil_append])
    ((with_reducible apply Tri.op); rfl; (with_reducible apply o_move); rfl; rfl; (with_reducible apply Tri.op); rfl; (with_reducible apply o_extract); rfl; rfl; rfl; (with_reducible apply Tri.op); rfl; (with_reducible apply o_extract); rfl; rfl; rfl; (with_reducible apply Tri.op); rfl; (with_reducible apply o_assign); rfl; rfl; (with_reducible apply Tri.op); rfl; (with_reducible apply o_assign); rfl; rfl; (with_reducible refine Tri.nil (Tri.thenN (Tri.seq ?_))))
    have hwp : wrPg (DS.new 16) (mvP p a) = (DS.new 16).wrs ((a : Int) * 4) (secs (putP (mvP p a)) 4) := by rw [wrPg, if_pos hok]; rfl
    obtain ⟨e1, hon1, hV1, hA1, hW1⟩ := DS.wrs_page hon a (putP (mvP p a)) hpl (by omega)
    rw [← hwp] at e1 hon1 hV1 hA1 hW1
    ((first | with_reducible apply Tri.mix [blk b7 98 tabL, blk b3 96 (pgL (mvP p a) (.slice A p.b.length c))] | ((with_reducible apply TriR.mix [blk b7 98 tabL, blk b3 96 (pgL (mvP p a) (.slice A p.b.length c))]); (case hnd => rfl))); (case p => (repeat (first | exact Pulls.nil | (apply Pulls.cons; (case a => (first | ((repeat (first | with_reducible exact Gv.Pull.head | with_reducible apply Gv.Pull.tail)); done) | (repeat (first | exact Gv.Pull.head | apply Gv.Pull.tail)))))))); (dsimp only [List.length]))
    ((first | ((with_reducible apply TriM.q 0); (case ho => rfl); (case hg => rfl)) | ((with_reducible apply TriM.qYes 0); (case ho => rfl); (case hg => rfl); (case hyl => rfl); (case hb => with_reducible rfl))); (case hB => kernel_rfl); (case hd => rfl); (case hn => rfl); (case h => (intro F K hK; ((with_reducible apply o_loadAll); (case hx => rfl); (case p => (first | ((repeat (first | with_reducible exact Pull.head | with_reducible apply Pull.tail)); done) | (repeat (first | exact Pull.head | apply Pull.tail)))); (case hl => exact tabL_length); (case hn => rfl)); exact hK)))
    ((first | ((with_reducible apply TriM.q 1); rfl; rfl) | ((with_reducible apply TriM.qYes 1); rfl; rfl; rfl; with_reducible rfl)); kernel_rfl; rfl; rfl; (intro F K hK; (with_reducible apply o_move); rfl; rfl; exact hK))
    ((first | ((with_reducible apply TriM.q 2); (case ho => rfl); (case hg => rfl)) | ((with_reducible apply TriM.qYes 2); (case ho => rfl); (case hg => rfl); (case hyl => rfl); (case hb => with_reducible rfl))); (case hB => kernel_rfl); (case hd => rfl); (case hn => rfl); (case h => (intro F K hK; ((with_reducible apply o_loadAll (cs := pgL (mvP p a) (.slice A p.b.length c))); (case hx => rfl); (case p => exact (by (first | ((repeat (first | with_reducible exact Pull.head | with_reducible apply Pull.tail)); done) | (repeat (first | exact Pull.head | apply Pull.tail))))); (case hl => rfl); (case hn => rfl)); exact hK)))
    ((first | ((with_reducible apply TriM.q 3); (case ho => rfl); (case hg => rfl)) | ((with_reducible apply TriM.qYes 3); (case ho => rfl); (case hg => rfl); (case hyl => rfl); (case hb => with_reducible rfl))); (case hB => kernel_rfl); (case hd => rfl); (case hn => rfl); (case h => (intro F K hK; (with_reducible apply o_callV (hs := law03_to (mvP p a) A p.b.length c)); (case hargs => (repeat first | exact evs.nil | (apply evs.cons; case a => rfl))); (case hpre => exact fun _ _ => trivial); (case hn => rfl); exact hK)))
    ((with_reducible apply TriM.a 4); (case ho => rfl); (case hg => rfl); (case hr => kernel_rfl); (try dsimp only [List.cons_append, List.nil_append]))
    ((with_reducible apply o_callS (hs := page_Write d (DS.new 16) (mvP p a) (.slice A p.b.length c) (hp w) hrm hgm hok0 (by omega))); (case hargs => (repeat first | exact evs.nil | (apply evs.cons; case a => rfl))); (case p => (repeat (first | exact Pulls.nil | (apply Pulls.cons; (case a => (first | ((repeat (first | with_reducible exact Gv.Pull.head | with_reducible apply Gv.Pull.tail)); done) | (repeat (first | exact Gv.Pull.head | apply Gv.Pull.tail)))))))); (case hn => rfl))
    rintro r3 H3 ⟨rfl, rfl⟩
    (try dsimp only [List.cons_append, List.nil_append])
    rw [e1]
    obtain ⟨S1, hS1⟩ : ∃ S1, S1 = (wrPg (DS.new 16) (mvP p a)).1 := ⟨_, rfl⟩
    rw [← hS1] at hon1 hV1 hA1 hW1 ⊢
    have hok1 := hon1.1
    have hAl1 : S1.A.length = 4096 := by rw [hA1, hAl]
    have hVl0 : (DS.new 16).V.length = 4096 := by rw [DS.V_length hok0, hAl]
    have hVl1 : S1.V.length = 4096 := by rw [DS.V_length hok1, hAl1]
    have hpg : pgAt S1.V a = putP (mvP p a) := by rw [hV1]; exact pgAt_same _ _ _ (by omega) hpl
    have hpo : ∀ j, j < 16 → j ≠ a → pgAt S1.V j = List.replicate 256 0 := fun j hj hja => by rw [hV1, pgAt_other _ _ _ _ (by omega) hpl hja]; exact pgAt_new 16 j hj
    have hrd : ∀ kd, rdPg S1 (a : Int) kd = if p.k = kd then (mvP p a, 0) else (zeroP, 3) := by
      intro kd
      rw [rdPg_on hon1 a (by omega), hpg, hget]
      by_cases h : p.k = kd
      · rw [if_pos h, if_pos ⟨rfl, rfl, h⟩]
      · rw [if_neg h, if_neg (fun q => h q.2.2)]
    have hro : ∀ j, j < 16 → j ≠ a → ∀ kd, rdPg S1 (j : Int) kd = (zeroP, 3) := by
      intro j hj hja kd
      rw [rdPg_on hon1 j (by omega), hpo j hj hja, getP_noughts, if_neg (fun q => absurd q.1 (by simp))]
    have hrb16 : ∀ kd, rdPg S1 ((16 : Nat) : Int) kd = (zeroP, 1) := fun kd => rdPg_beyond hon1 16 (by omega) kd
    ((with_reducible apply TriM.back); (case p => (repeat (first | exact Pulls.nil | (apply Pulls.cons; (case a => (first | ((repeat (first | with_reducible exact Gv.Pull.head | with_reducible apply Gv.Pull.tail)); done) | (repeat (first | exact Gv.Pull.head | apply Gv.Pull.tail)))))))))
    ((first | ((with_reducible apply TriM.q 5); rfl; rfl) | ((with_reducible apply TriM.qYes 5); rfl; rfl; rfl; with_reducible rfl)); kernel_rfl; rfl; rfl; (intro F K hK; (with_reducible apply o_assign); rfl; rfl; exact hK))
    ((with_reducible apply TriM.nil); (case hr => kernel_rfl); (try dsimp only [List.cons_append, List.nil_append]))
    ((with_reducible refine Tri.thenN (Tri.seq (Tri.seq (Tri.region ?_)))); (with_reducible apply Tri.op); rfl)
    ((with_reducible apply o_callV (hs := law03_puts)); (case hargs => (repeat first | exact evs.nil | (apply evs.cons; case a => rfl))); (case hpre => exact fun _ _ => trivial); (case hn => rfl))
    ((with_reducible apply Tri.op); rfl; (with_reducible apply o_not); rfl; rfl; (with_reducible apply Tri.op); rfl; (with_reducible apply o_move); rfl; rfl)
    ((with_reducible apply Tri.setb 51 (false)); (case h => rfl); (case hi => rfl))
    ((with_reducible apply Tri.opYes); rfl; rfl; rfl; (with_reducible apply o_move); rfl; rfl; (with_reducible apply Tri.opYes); rfl; rfl; rfl; (with_reducible apply o_neq); rfl; rfl; rfl; (with_reducible apply Tri.op); rfl; (with_reducible apply o_pickF); (iterate 4 rfl); (with_reducible apply Tri.op); rfl; (with_reducible apply o_move); rfl; rfl)
    ((with_reducible apply Tri.setb 55 (false)); (case h => rfl); (case hi => rfl))
    ((with_reducible apply Tri.opYes); rfl; rfl; rfl; (with_reducible apply o_move); rfl; rfl; (with_reducible apply Tri.opYes); rfl; rfl; rfl; (with_reducible apply o_eql); rfl; rfl; rfl; (with_reducible apply Tri.opYes); rfl; rfl; rfl; (with_reducible apply o_move); rfl; rfl; (with_reducible apply Tri.opYes); rfl; rfl; rfl; (with_reducible apply o_neqB); rfl; rfl; rfl; (with_reducible apply Tri.op); rfl; (with_reducible apply o_pickF); (iterate 4 rfl); (with_reducible refine Tri.nil (Tri.thenN ?_)))
    ((with_reducible apply Tri.setb 60 (false)); (case h => rfl); (case hi => rfl))
    ((with_reducible apply Tri.condF); rfl; rfl; (with_reducible refine Tri.skip (Tri.thenN (Tri.seq (Tri.seq (Tri.region ?_))))); (with_reducible apply Tri.op); rfl; (with_reducible apply o_move); rfl; rfl; (with_reducible apply Tri.op); rfl; (with_reducible apply o_neq); rfl; rfl; rfl; (with_reducible refine Tri.nil (Tri.thenN ?_)))
    ((with_reducible apply Tri.setb 62 (false)); (case h => rfl); (case hi => rfl))
    ((with_reducible apply Tri.condF); rfl; rfl; (with_reducible refine Tri.skip (Tri.thenN (Tri.seq (Tri.region ?_)))); (with_reducible apply Tri.op); rfl)
    ((with_reducible apply o_loadAll); (case hx => rfl); (case p => (first | ((repeat (first | with_reducible exact Pull.head | with_reducible apply Pull.tail)); done) | (repeat (first | exact Pull.head | apply Pull.tail)))); (case hl => exact tabL_length); (case hn => rfl))
    ((with_reducible apply Tri.op); rfl; (with_reducible apply o_move); rfl; rfl; (with_reducible apply Tri.op); rfl; (with_reducible apply o_fieldAddr); rfl; rfl; (with_reducible apply Tri.op); rfl; (with_reducible apply o_load); rfl; (focus (first | ((repeat (first | with_reducible exact Pull.head | with_reducible apply Pull.tail)); done) | (repeat (first | exact Pull.head | apply Pull.tail)))); rfl; rfl; (with_reducible apply Tri.op); rfl; (with_reducible apply o_fieldAddr); rfl; rfl; (with_reducible apply Tri.op); rfl; (with_reducible apply o_load); rfl; (focus (first | ((repeat (first | with_reducible exact Pull.head | with_reducible apply Pull.tail)); done) | (repeat (first | exact Pull.head | apply Pull.tail)))); rfl; rfl; (with_reducible apply Tri.op); rfl)
    ((with_reducible apply o_callS (hs := page_Read d S1 (a : Int) p.k hok1 (by omega) (by omega))); (case hargs => (repeat first | exact evs.nil | (apply evs.cons; case a => rfl))); (case p => (repeat (first | exact Pulls.nil | (apply Pulls.cons; (case a => (first | ((repeat (first | with_reducible exact Gv.Pull.head | with_reducible apply Gv.Pull.tail)); done) | (repeat (first | exact Gv.Pull.head | apply Gv.Pull.tail)))))))); (case hn => rfl))
    rintro r10 H10 ⟨A10, c10, rfl, rfl⟩
    rw [hrd p.k, if_pos rfl]
    (try dsimp only [List.cons_append, List.nil_append])
    ((with_reducible apply Tri.op); rfl; (with_reducible apply o_move); rfl; rfl; (with_reducible apply Tri.op); rfl; (with_reducible apply o_extract); rfl; rfl; rfl; (with_reducible apply Tri.op); rfl; (with_reducible apply o_extract); rfl; rfl; rfl; (with_reducible apply Tri.op); rfl)
    ((with_reducible apply o_alloc); (case hn => rfl); intro b13)
    ((with_reducible apply Tri.op); rfl)
    ((with_reducible apply o_storeAll (ys := pgL (mvP p a) (.slice A10 (mvP p a).b.length c10))); (case hx => rfl); (case hy => rfl); (case p => (first | ((repeat (first | with_reducible exact Pull.head | with_reducible apply Pull.tail)); done) | (repeat (first | exact Pull.head | apply Pull.tail)))); (case hl => rfl); (case hc => rfl); (case h1 => exact pgL_one (mvP p a) A10 _ c10))
    ((with_reducible apply Tri.op); rfl; (with_reducible apply o_assign); rfl; rfl; (with_reducible refine Tri.nil (Tri.thenN (Tri.seq (Tri.region ?_)))); (with_reducible apply Tri.op); rfl)
    ((with_reducible apply o_loadAll); (case hx => rfl); (case p => (first | ((repeat (first | with_reducible exact Pull.head | with_reducible apply Pull.tail)); done) | (repeat (first | exact Pull.head | apply Pull.tail)))); (case hl => exact tabL_length); (case hn => rfl))
    ((with_reducible apply Tri.op); rfl; (with_reducible apply o_move); rfl; rfl; (with_reducible apply Tri.op); rfl; (with_reducible apply o_fieldAddr); rfl; rfl; (with_reducible apply Tri.op); rfl; (with_reducible apply o_load); rfl; (focus (first | ((repeat (first | with_reducible exact Pull.head | with_reducible apply Pull.tail)); done) | (repeat (first | exact Pull.head | apply Pull.tail)))); rfl; rfl; (with_reducible apply Tri.op); rfl; (with_reducible apply o_move); rfl; rfl; (with_reducible apply Tri.op); rfl)
    ((with_reducible apply o_callS (hs := page_Read d S1 (a : Int) kind hok1 (by omega) (by omega))); (case hargs => (repeat first | exact evs.nil | (apply evs.cons; case a => rfl))); (case p => (repeat (first | exact Pulls.nil | (apply Pulls.cons; (case a => (first | ((repeat (first | with_reducible exact Gv.Pull.head | with_reducible apply Gv.Pull.tail)); done) | (repeat (first | exact Gv.Pull.head | apply Gv.Pull.tail)))))))); (case hn => rfl))
    rintro r11 H11 ⟨A11, c11, rfl, rfl⟩
    have hE2 : decide (((rdPg S1 (a : Int) kind).2 : Int) = 0) = decide ((kind.toNat : Int) = ((mvP p a).k.toNat : Int)) := by
      rw [hrd kind]
      apply decide_eq_decide.2
      by_cases hk : p.k = kind
      · rw [if_pos hk]
        exact ⟨fun _ => by rw [← hk]; rfl, fun _ => rfl⟩
      · rw [if_neg hk]
        exact ⟨fun q => (by cases q), fun q => absurd (UInt8.toNat_inj.1 (show p.k.toNat = kind.toNat by have : ((kind.toNat : Nat) : Int) = (p.k.toNat : Int) := q; omega)) hk⟩
    obtain ⟨R2, hR2⟩ : ∃ R, R = rdPg S1 (a : Int) kind := ⟨_, rfl⟩
    rw [← hR2] at hE2 ⊢
    obtain ⟨q2, e2⟩ := R2
    dsimp only at hE2 ⊢
    (try dsimp only [List.cons_append, List.nil_append])
    ((with_reducible apply Tri.op); rfl; (with_reducible apply o_move); rfl; rfl; (with_reducible apply Tri.op); rfl; (with_reducible apply o_extract); rfl; rfl; rfl; (with_reducible apply Tri.op); rfl; (with_reducible apply o_extract); rfl; rfl; rfl; (with_reducible apply Tri.op); rfl)
    ((with_reducible apply o_alloc); (case hn => rfl); intro b15)
    ((with_reducible apply Tri.op); rfl)
    ((with_reducible apply o_storeAll (ys := pgL q2 (.slice A11 q2.b.length c11))); (case hx => rfl); (case hy => rfl); (case p => (first | ((repeat (first | with_reducible exact Pull.head | with_reducible apply Pull.tail)); done) | (repeat (first | exact Pull.head | apply Pull.tail)))); (case hl => rfl); (case hc => rfl); (case h1 => exact pgL_one q2 A11 _ c11))
    ((with_reducible apply Tri.op); rfl; (with_reducible apply o_assign); rfl; rfl; (with_reducible refine Tri.nil (Tri.thenN (Tri.seq (Tri.region ?_)))); (with_reducible apply Tri.op); rfl)
    ((with_reducible apply o_loadAll); (case hx => rfl); (case p => (first | ((repeat (first | with_reducible exact Pull.head | with_reducible apply Pull.tail)); done) | (repeat (first | exact Pull.head | apply Pull.tail)))); (case hl => exact tabL_length); (case hn => rfl))
    ((with_reducible apply Tri.op); rfl; (with_reducible apply o_move); rfl; rfl; (with_reducible apply Tri.op); rfl; (with_reducible apply o_fieldAddr); rfl; rfl; (with_reducible apply Tri.op); rfl; (with_reducible apply o_load); rfl; (focus (first | ((repeat (first | with_reducible exact Pull.head | with_reducible apply Pull.tail)); done) | (repeat (first | exact Pull.head | apply Pull.tail)))); rfl; rfl; (with_reducible apply Tri.op); rfl; (with_reducible apply o_add); rfl; rfl; rfl; (with_reducible apply Tri.op); rfl; (with_reducible apply o_remT); rfl; rfl; rfl; (omega); (with_reducible apply Tri.op); rfl; (with_reducible apply o_fieldAddr); rfl; rfl; (with_reducible apply Tri.op); rfl; (with_reducible apply o_load); rfl; (focus (first | ((repeat (first | with_reducible exact Pull.head | with_reducible apply Pull.tail)); done) | (repeat (first | exact Pull.head | apply Pull.tail)))); rfl; rfl; (with_reducible apply Tri.op); rfl)
    ((with_reducible apply Tri.seti 90 ((((a + 1) % 16 : Nat) : Int))); (case h => rfl); (case hi => (first | omega | (show Int.tmod ((a : Int) + 1) 16 = _; rw [Int.tmod_eq_emod_of_nonneg (by omega)]; omega) | (show (IntKind.i64.wrap ((a : Int) + 1)).tmod 16 = _; rw [wrap_i64 (by omega), Int.tmod_eq_emod_of_nonneg (by omega)]; omega))))
    ((with_reducible apply o_callS (hs := page_Read d S1 (((a + 1) % 16 : Nat) : Int) p.k hok1 (by omega) (by omega))); (case hargs => (repeat first | exact evs.nil | (apply evs.cons; case a => rfl))); (case p => (repeat (first | exact Pulls.nil | (apply Pulls.cons; (case a => (first | ((repeat (first | with_reducible exact Gv.Pull.head | with_reducible apply Gv.Pull.tail)); done) | (repeat (first | exact Gv.Pull.head | apply Gv.Pull.tail)))))))); (case hn => rfl))
    rintro r12 H12 ⟨A12, c12, rfl, rfl⟩
    rw [hro ((a + 1) % 16) (by omega) (by omega) p.k]
    (try dsimp only [List.cons_append, List.nil_append])
    ((with_reducible apply Tri.op); rfl; (with_reducible apply o_move); rfl; rfl; (with_reducible apply Tri.op); rfl; (with_reducible apply o_extract); rfl; rfl; rfl; (with_reducible apply Tri.op); rfl; (with_reducible apply o_extract); rfl; rfl; rfl; (with_reducible apply Tri.op); rfl)
    ((with_reducible apply o_alloc); (case hn => rfl); intro b17)
    ((with_reducible apply Tri.op); rfl)
    ((with_reducible apply o_storeAll (ys := pgL zeroP (.slice A12 zeroP.b.length c12))); (case hx => rfl); (case hy => rfl); (case p => (first | ((repeat (first | with_reducible exact Pull.head | with_reducible apply Pull.tail)); done) | (repeat (first | exact Pull.head | apply Pull.tail)))); (case hl => rfl); (case hc => rfl); (case h1 => exact pgL_one zeroP A12 _ c12))
    ((with_reducible apply Tri.op); rfl; (with_reducible apply o_assign); rfl; rfl; (with_reducible refine Tri.nil (Tri.thenN (Tri.seq (Tri.region ?_)))); (with_reducible apply Tri.op); rfl)
    ((with_reducible apply o_loadAll); (case hx => rfl); (case p => (first | ((repeat (first | with_reducible exact Pull.head | with_reducible apply Pull.tail)); done) | (repeat (first | exact Pull.head | apply Pull.tail)))); (case hl => exact tabL_length); (case hn => rfl))
    ((with_reducible apply Tri.op); rfl; (with_reducible apply o_move); rfl; rfl; (with_reducible apply Tri.op); rfl; (with_reducible apply o_fieldAddr); rfl; rfl; (with_reducible apply Tri.op); rfl; (with_reducible apply o_load); rfl; (focus (first | ((repeat (first | with_reducible exact Pull.head | with_reducible apply Pull.tail)); done) | (repeat (first | exact Pull.head | apply Pull.tail)))); rfl; rfl; (with_reducible apply Tri.op); rfl)
    have hrb16' : rdPg S1 16 p.k = (zeroP, 1) := hrb16 p.k
    ((with_reducible apply o_callS (hs := page_Read d S1 16 p.k hok1 (by omega) (by omega))); (case hargs => (repeat first | exact evs.nil | (apply evs.cons; case a => rfl))); (case p => (repeat (first | exact Pulls.nil | (apply Pulls.cons; (case a => (first | ((repeat (first | with_reducible exact Gv.Pull.head | with_reducible apply Gv.Pull.tail)); done) | (repeat (first | exact Gv.Pull.head | apply Gv.Pull.tail)))))))); (case hn => rfl))
    rintro r13 H13 ⟨A13, c13, rfl, rfl⟩
    rw [hrb16']
    (try dsimp only [List.cons_append, List.nil_append])
    ((with_reducible apply Tri.op); rfl; (with_reducible apply o_move); rfl; rfl; (with_reducible apply Tri.op); rfl; (with_reducible apply o_extract); rfl; rfl; rfl; (with_reducible apply Tri.op); rfl; (with_reducible apply o_extract); rfl; rfl; rfl; (with_reducible apply Tri.op); rfl)
    ((with_reducible apply o_alloc); (case hn => rfl); intro b19)
    ((with_reducible apply Tri.op); rfl)
    ((with_reducible apply o_storeAll (ys := pgL zeroP (.slice A13 zeroP.b.length c13))); (case hx => rfl); (case hy => rfl); (case p => (first | ((repeat (first | with_reducible exact Pull.head | with_reducible apply Pull.tail)); done) | (repeat (first | exact Pull.head | apply Pull.tail)))); (case hl => rfl); (case hc => rfl); (case h1 => exact pgL_one zeroP A13 _ c13))
    ((with_reducible apply Tri.op); rfl; (with_reducible apply o_assign); rfl; rfl; (with_reducible refine Tri.nil (Tri.thenN (Tri.seq (Tri.region ?_)))); (with_reducible apply Tri.op); rfl; (with_reducible apply o_move); rfl; rfl; (with_reducible apply Tri.op); rfl; (with_reducible apply o_move); rfl; rfl; (with_reducible apply Tri.op); rfl)
    ((with_reducible apply o_lenRd (hr := hrb)); (case hx => rfl); (case hn => rfl))
    ((with_reducible apply Tri.op); rfl; (with_reducible apply o_min); rfl; rfl; rfl; (with_reducible apply Tri.op); rfl)
    obtain ⟨m, hm⟩ : ∃ m, m = min lb.length 700 := ⟨_, rfl⟩
    ((with_reducible apply Tri.seti 107 ((m : Int))); (case h => rfl); (case hi => (first | omega | (simp; omega))))
    ((with_reducible apply o_slice (lo := 0) (hi := m)); (case hx => rfl); (case hr => exact rdw_ex (by (first | ((repeat (first | with_reducible exact Pull.head | with_reducible apply Pull.tail)); done) | (repeat (first | exact Pull.head | apply Pull.tail)))) hrb); (case hol => first | exact fun _ _ => rfl | exact fun a ha => congrArg some (ha.eval rfl)); (case hoh => first | exact fun _ _ => rfl | exact fun a ha => congrArg some (ha.eval rfl)); (case hlo => first | exact .inr ⟨rfl, rfl⟩ | exact .inl ⟨_, rfl⟩ | exact .inl ⟨_, (by congr 2; omega)⟩); (case hhi => first | exact .inr ⟨rfl, rfl⟩ | exact .inl ⟨_, rfl⟩ | exact .inl ⟨_, (by congr 2; omega)⟩); (case hlh => omega); (case hhm => omega); (case hn => rfl))
    have hrr := sub_from hrb m (by omega)
    obtain ⟨raw, hraw⟩ : ∃ raw, raw = lb.take m := ⟨_, rfl⟩
    obtain ⟨vr, hvr⟩ : ∃ vr, vr = subv vb 1 0 m := ⟨_, rfl⟩
    rw [← hraw, ← hvr] at hrr
    rw [← hvr]
    have hrl : raw.length ≤ 700 := by rw [hraw, List.length_take]; omega
    have hpl2 : (padB raw).length ≤ 955 := by rw [padB_length]; unfold padN; omega
    have hpm2 := padB_mod raw
    ((with_reducible apply Tri.op); rfl; (with_reducible apply o_assign); rfl; rfl; (with_reducible refine Tri.nil (Tri.thenN (Tri.seq (Tri.region ?_)))); (with_reducible apply Tri.op); rfl; (with_reducible apply o_move); rfl; rfl; (with_reducible apply Tri.op); rfl; (with_reducible apply o_conv64); rfl; rfl; (with_reducible apply Tri.op); rfl; (with_reducible apply o_rem); rfl; rfl; rfl; (omega); (omega); (with_reducible apply Tri.op); rfl; (with_reducible apply o_convI); rfl; rfl; (first | decide | (exact wrap_i64 (by omega)) | (exact wrap_u8 (by omega)) | (exact wrap_u16 (by omega)) | (exact wrap_u32 (by omega)) | (exact wrap_u64 (by omega))); (with_reducible apply Tri.op); rfl; (with_reducible apply o_assign); rfl; rfl; (with_reducible refine Tri.nil (Tri.thenN (Tri.seq (Tri.region ?_)))); (with_reducible apply Tri.op); rfl; (with_reducible apply o_move); rfl; rfl; (with_reducible apply Tri.op); rfl; (with_reducible apply o_move); rfl; rfl; (with_reducible apply Tri.op); rfl; (with_reducible apply o_move); rfl; rfl; (with_reducible apply Tri.op); rfl)
    have hkb := kind.toNat_lt
    ((with_reducible apply Tri.seti 21 (((kind.toNat % 10 : Nat) : Int))); (case h => rfl); (case hi => omega))
    ((with_reducible apply Tri.seti 114 (((kind.toNat % 10 : Nat) : Int))); (case h => rfl); (case hi => omega))
    obtain ⟨at_, hat⟩ : ∃ at_, at_ = kind.toNat % 10 := ⟨_, rfl⟩
    rw [← hat]
    have hat9 : at_ ≤ 9 := by omega
    skip
    obtain ⟨f1, hon2, hA2, hV2, hW2⟩ := raw_back hon1 at_ raw (by omega)
    ((with_reducible apply o_callS (hs := page_WriteRaw d S1 (at_ : Int) vr raw (hp w) hrr hok1 (by omega) (by omega) (by omega))); (case hargs => (repeat first | exact evs.nil | (apply evs.cons; case a => rfl))); (case p => (repeat (first | exact Pulls.nil | (apply Pulls.cons; (case a => (first | ((repeat (first | with_reducible exact Gv.Pull.head | with_reducible apply Gv.Pull.tail)); done) | (repeat (first | exact Gv.Pull.head | apply Gv.Pull.tail)))))))); (case hn => rfl))
    rintro r16 H16 ⟨rfl, rfl⟩
    rw [f1]
    obtain ⟨S2, hS2⟩ : ∃ S2, S2 = (S1.wrs ((at_ : Int) * 4) (secs (padB raw) ((padB raw).length / 64))).1 := ⟨_, rfl⟩
    rw [← hS2] at hon2 hA2 hV2 hW2 ⊢
    have hok2 := hon2.1
    have hAl2 : S2.A.length = 4096 := by rw [hA2, hAl1]
    have hrE : rdE S2 ((at_ : Int) * 4) ((raw.length + 63) / 64) = 0 := by
      have := rdE_of (S := S2) (a := at_ * 4) hon2.2.1 ((raw.length + 63) / 64) (by omega)
      rwa [show ((at_ * 4 : Nat) : Int) = (at_ : Int) * 4 by omega] at this
    have hrT : (S2.V.drop (((at_ : Int)).toNat * 256)).take raw.length = raw := by
      rw [show ((at_ : Int)).toNat = at_ by omega, hV2, putAt_read _ _ _ _ (by omega) (by rw [padB_length]; omega), padB_take]
    (try dsimp only [List.cons_append, List.nil_append])
    ((with_reducible apply Tri.op); rfl; (with_reducible apply o_assign); rfl; rfl; (with_reducible refine Tri.nil (Tri.thenN (Tri.seq (Tri.region ?_)))); (with_reducible apply Tri.op); rfl; (with_reducible apply o_move); rfl; rfl; (with_reducible apply Tri.op); rfl; (with_reducible apply o_move); rfl; rfl; (with_reducible apply Tri.op); rfl; (with_reducible apply o_move); rfl; rfl; (with_reducible apply Tri.op); rfl)
    ((with_reducible apply o_lenRd (hr := hrr)); (case hx => rfl); (case hn => rfl))
    ((with_reducible apply Tri.op); rfl)
    ((with_reducible apply o_callS (hs := page_ReadRaw d S2 (at_ : Int) raw.length hok2 (by omega) (by omega) (by omega))); (case hargs => (repeat first | exact evs.nil | (apply evs.cons; case a => rfl))); (case p => (repeat (first | exact Pulls.nil | (apply Pulls.cons; (case a => (first | ((repeat (first | with_reducible exact Gv.Pull.head | with_reducible apply Gv.Pull.tail)); done) | (repeat (first | exact Gv.Pull.head | apply Gv.Pull.tail)))))))); (case hn => rfl))
    rintro r17 H17 (⟨hbad, _, _⟩ | ⟨_, A17, h17, rfl, hr17, _, rfl⟩)
    · exact absurd hrE hbad
    rw [hrT] at hr17
    (try dsimp only [List.cons_append, List.nil_append])
    ((with_reducible apply Tri.op); rfl; (with_reducible apply o_move); rfl; rfl; (with_reducible apply Tri.op); rfl; (with_reducible apply o_extract); rfl; rfl; rfl; (with_reducible apply Tri.op); rfl; (with_reducible apply o_extract); rfl; rfl; rfl; (with_reducible apply Tri.op); rfl; (with_reducible apply o_assign); rfl; rfl; (with_reducible apply Tri.op); rfl; (with_reducible apply o_assign); rfl; rfl; (with_reducible refine Tri.nil (Tri.thenN (Tri.seq (Tri.region ?_)))); (with_reducible apply Tri.op); rfl; (with_reducible apply o_move); rfl; rfl; (with_reducible apply Tri.op); rfl; (with_reducible apply o_move); rfl; rfl; (with_reducible apply Tri.op); rfl)
    ((with_reducible apply o_callV (hs := page_ReadRaw_neg d S2 (at_ : Int) (-1) (by omega))); (case hargs => (repeat first | exact evs.nil | (apply evs.cons; case a => rfl))); (case hpre => exact fun _ _ => trivial); (case hn => rfl))
    ((with_reducible apply Tri.op); rfl; (with_reducible apply o_move); rfl; rfl; (with_reducible apply Tri.op); rfl; (with_reducible apply o_extract); rfl; rfl; rfl; (with_reducible apply Tri.op); rfl; (with_reducible apply o_extract); rfl; rfl; rfl; (with_reducible apply Tri.op); rfl; (with_reducible apply o_assign); rfl; rfl; (with_reducible apply Tri.op); rfl; (with_reducible apply o_assign); rfl; rfl; (with_reducible refine Tri.nil (Tri.thenN (Tri.seq (Tri.region ?_)))); (with_reducible apply Tri.op); rfl; (with_reducible apply o_move); rfl; rfl; (with_reducible apply Tri.op); rfl)
    ((with_reducible apply o_litSl (ys := [.int .u8 1])); (case hp => (repeat first | exact pev.nil | (apply pev.cons; case a => rfl))); (case hm => rfl); (case hf => rfl); (case hn => rfl); intro v1)
    ((with_reducible apply Tri.op); rfl)
    refine Tri.shut (e := 5) (size := 1) (v := v1) (by (first | ((repeat (first | with_reducible exact Pull.head | with_reducible apply Pull.tail)); done) | (repeat (first | exact Pull.head | apply Pull.tail)))) (fun h19 ho => ?_)
    have hr19 : Rd h19 v1 [(1 : UInt8)].length (B8 [1]) := own_Rd ho
    obtain ⟨sc, scs, hsc⟩ := secs_cons (padB [1]) 3
    have hm64 : mayE S2.off S2.A.length 64 ≠ 0 := by rw [hon2.2.1, hAl2]; decide
    have hw19 : S2.wrs (16 * 4) (secs (padB [1]) ((padB [1]).length / 64)) = (S2, 1) := by
      have : (padB [1]).length / 64 = 3 + 1 := by rw [padB_length]; rfl
      rw [this, hsc]
      have := wrs_beyond hm64 sc scs
      rw [show ((16 : Int) * 4) = 64 from rfl, this, hon2.2.1, hAl2]
      rfl
    ((with_reducible apply o_callS (hs := page_WriteRaw d S2 16 v1 [1] h19 hr19 hok2 (by simp) (by simp; omega) (by omega))); (case hargs => (repeat first | exact evs.nil | (apply evs.cons; case a => rfl))); (case p => (repeat (first | exact Pulls.nil | (apply Pulls.cons; (case a => (first | ((repeat (first | with_reducible exact Gv.Pull.head | with_reducible apply Gv.Pull.tail)); done) | (repeat (first | exact Gv.Pull.head | apply Gv.Pull.tail)))))))); (case hn => rfl))
    rintro r19 H19 ⟨rfl, rfl⟩
    rw [hw19]
    (try dsimp only [List.cons_append, List.nil_append])
    ((with_reducible apply Tri.op); rfl; (with_reducible apply o_assign); rfl; rfl; (with_reducible refine Tri.nil (Tri.thenN (Tri.seq ?_))))
    ((with_reducible apply Tri.quiet); (case hB => kernel_rfl))
    ((first | ((with_reducible apply TriQ.op); rfl) | ((with_reducible apply TriQ.opYes); rfl; rfl; with_reducible rfl)); rfl; rfl; (intro K hK; (with_reducible apply o_move); rfl; rfl; exact hK); (first | ((with_reducible apply TriQ.op); rfl) | ((with_reducible apply TriQ.opYes); rfl; rfl; with_reducible rfl)); rfl; rfl; (intro K hK; (with_reducible apply o_eql); rfl; rfl; rfl; exact hK); (first | ((with_reducible apply TriQ.op); rfl) | ((with_reducible apply TriQ.opYes); rfl; rfl; with_reducible rfl)); rfl; rfl; (intro K hK; (with_reducible apply o_move); rfl; rfl; exact hK))
    ((with_reducible apply TriQ.setb 136 (true)); (case h => rfl); (case hi => rfl))
    skip
    ((first | ((with_reducible apply TriQ.op); (case hg => rfl)) | ((with_reducible apply TriQ.opYes); (case hg => rfl); (case hy => rfl); (case hb => with_reducible rfl))); (case hd => rfl); (case hn => rfl); (case h => (intro K hK; ((with_reducible apply o_loadAll (cs := pgL (mvP p a) (.slice A10 (mvP p a).b.length c10))); (case hx => rfl); (case p => exact (by (first | ((repeat (first | with_reducible exact Pull.head | with_reducible apply Pull.tail)); done) | (repeat (first | exact Pull.head | apply Pull.tail))))); (case hl => rfl); (case hn => rfl)); exact hK)))
    ((first | ((with_reducible apply TriQ.op); (case hg => rfl)) | ((with_reducible apply TriQ.opYes); (case hg => rfl); (case hy => rfl); (case hb => with_reducible rfl))); (case hd => rfl); (case hn => rfl); (case h => (intro K hK; (with_reducible apply o_callV (hs := law03_from (mvP p a) A10 (mvP p a).b.length c10)); (case hargs => (repeat first | exact evs.nil | (apply evs.cons; case a => rfl))); (case hpre => exact fun _ _ => trivial); (case hn => rfl); exact hK)))
    ((first | ((with_reducible apply TriQ.op); (case hg => rfl)) | ((with_reducible apply TriQ.opYes); (case hg => rfl); (case hy => rfl); (case hb => with_reducible rfl))); (case hd => rfl); (case hn => rfl); (case h => (intro K hK; ((with_reducible apply o_loadAll (cs := pgL (mvP p a) (.slice A p.b.length c))); (case hx => rfl); (case p => exact (by (first | ((repeat (first | with_reducible exact Pull.head | with_reducible apply Pull.tail)); done) | (repeat (first | exact Pull.head | apply Pull.tail))))); (case hl => rfl); (case hn => rfl)); exact hK)))
    ((first | ((with_reducible apply TriQ.op); (case hg => rfl)) | ((with_reducible apply TriQ.opYes); (case hg => rfl); (case hy => rfl); (case hb => with_reducible rfl))); (case hd => rfl); (case hn => rfl); (case h => (intro K hK; (with_reducible apply o_callV (hs := ref03_Same (mvP p a) (mvP p a) (.slice A10 (mvP p a).b.length c10) (.slice A p.b.length c))); (case hargs => (repeat first | exact evs.nil | (apply evs.cons; case a => rfl))); (case hpre => exact fun w' hw' => ⟨rdw_own (by (first | ((repeat (first | with_reducible exact Pull.head | with_reducible apply Pull.tail)); done) | (repeat (first | exact Pull.head | apply Pull.tail)))) w' hw', rdw_ex (by (first | ((repeat (first | with_reducible exact Pull.head | with_reducible apply Pull.tail)); done) | (repeat (first | exact Pull.head | apply Pull.tail)))) hrm w' hw'⟩); (case hn => rfl); exact hK)))
    ((first | ((with_reducible apply TriQ.op); rfl) | ((with_reducible apply TriQ.opYes); rfl; rfl; with_reducible rfl)); rfl; rfl; (intro K hK; (with_reducible apply o_pickT); (iterate 4 rfl); exact hK); (first | ((with_reducible apply TriQ.op); rfl) | ((with_reducible apply TriQ.opYes); rfl; rfl; with_reducible rfl)); rfl; rfl; (intro K hK; (with_reducible apply o_move); rfl; rfl; exact hK))
    ((with_reducible apply TriQ.setb 142 (true)); (case h => rfl); (case hi => simp))
    ((first | ((with_reducible apply TriQ.op); rfl) | ((with_reducible apply TriQ.opYes); rfl; rfl; with_reducible rfl)); rfl; rfl; (intro K hK; (with_reducible apply o_move); rfl; rfl; exact hK); (first | ((with_reducible apply TriQ.op); rfl) | ((with_reducible apply TriQ.opYes); rfl; rfl; with_reducible rfl)); rfl; rfl; (intro K hK; (with_reducible apply o_eql); rfl; rfl; rfl; exact hK); (first | ((with_reducible apply TriQ.op); rfl) | ((with_reducible apply TriQ.opYes); rfl; rfl; with_reducible rfl)); rfl; rfl; (intro K hK; (with_reducible apply o_move); rfl; rfl; exact hK); (first | ((with_reducible apply TriQ.op); rfl) | ((with_reducible apply TriQ.opYes); rfl; rfl; with_reducible rfl)); rfl; rfl; (intro K hK; (with_reducible apply o_fieldAddr); rfl; rfl; exact hK); (first | ((with_reducible apply TriQ.op); rfl) | ((with_reducible apply TriQ.opYes); rfl; rfl; with_reducible rfl)); rfl; rfl; (intro K hK; (with_reducible apply o_load); rfl; (focus (first | ((repeat (first | with_reducible exact Pull.head | with_reducible apply Pull.tail)); done) | (repeat (first | exact Pull.head | apply Pull.tail)))); rfl; rfl; exact hK); (first | ((with_reducible apply TriQ.op); rfl) | ((with_reducible apply TriQ.opYes); rfl; rfl; with_reducible rfl)); rfl; rfl; (intro K hK; (with_reducible apply o_eql); rfl; rfl; rfl; exact hK); (first | ((with_reducible apply TriQ.op); rfl) | ((with_reducible apply TriQ.opYes); rfl; rfl; with_reducible rfl)); rfl; rfl; (intro K hK; (with_reducible apply o_eqlB); rfl; rfl; rfl; exact hK); (first | ((with_reducible apply TriQ.op); rfl) | ((with_reducible apply TriQ.opYes); rfl; rfl; with_reducible rfl)); rfl; rfl; (intro K hK; (with_reducible apply o_pickT); (iterate 4 rfl); exact hK); (first | ((with_reducible apply TriQ.op); rfl) | ((with_reducible apply TriQ.opYes); rfl; rfl; with_reducible rfl)); rfl; rfl; (intro K hK; (with_reducible apply o_move); rfl; rfl; exact hK))
    ((with_reducible apply TriQ.setb 151 (true)); (case h => rfl); (case hi => (rw [hE2]; simp)))
    ((first | ((with_reducible apply TriQ.op); rfl) | ((with_reducible apply TriQ.opYes); rfl; rfl; with_reducible rfl)); rfl; rfl; (intro K hK; (with_reducible apply o_move); rfl; rfl; exact hK); (first | ((with_reducible apply TriQ.op); rfl) | ((with_reducible apply TriQ.opYes); rfl; rfl; with_reducible rfl)); rfl; rfl; (intro K hK; (with_reducible apply o_eql); rfl; rfl; rfl; exact hK); (first | ((with_reducible apply TriQ.op); rfl) | ((with_reducible apply TriQ.opYes); rfl; rfl; with_reducible rfl)); rfl; rfl; (intro K hK; (with_reducible apply o_pickT); (iterate 4 rfl); exact hK); (first | ((with_reducible apply TriQ.op); rfl) | ((with_reducible apply TriQ.opYes); rfl; rfl; with_reducible rfl)); rfl; rfl; (intro K hK; (with_reducible apply o_move); rfl; rfl; exact hK))
    ((with_reducible apply TriQ.setb 155 (true)); (case h => rfl); (case hi => rfl))
    ((first | ((with_reducible apply TriQ.op); rfl) | ((with_reducible apply TriQ.opYes); rfl; rfl; with_reducible rfl)); rfl; rfl; (intro K hK; (with_reducible apply o_move); rfl; rfl; exact hK); (first | ((with_reducible apply TriQ.op); rfl) | ((with_reducible apply TriQ.opYes); rfl; rfl; with_reducible rfl)); rfl; rfl; (intro K hK; (with_reducible apply o_eql); rfl; rfl; rfl; exact hK); (first | ((with_reducible apply TriQ.op); rfl) | ((with_reducible apply TriQ.opYes); rfl; rfl; with_reducible rfl)); rfl; rfl; (intro K hK; (with_reducible apply o_pickT); (iterate 4 rfl); exact hK); (first | ((with_reducible apply TriQ.op); rfl) | ((with_reducible apply TriQ.opYes); rfl; rfl; with_reducible rfl)); rfl; rfl; (intro K hK; (with_reducible apply o_move); rfl; rfl; exact hK))
    ((with_reducible apply TriQ.setb 159 (true)); (case h => rfl); (case hi => rfl))
    ((first | ((with_reducible apply TriQ.op); rfl) | ((with_reducible apply TriQ.opYes); rfl; rfl; with_reducible rfl)); rfl; rfl; (intro K hK; (with_reducible apply o_move); rfl; rfl; exact hK); (first | ((with_reducible apply TriQ.op); rfl) | ((with_reducible apply TriQ.opYes); rfl; rfl; with_reducible rfl)); rfl; rfl; (intro K hK; (with_reducible apply o_eql); rfl; rfl; rfl; exact hK); (first | ((with_reducible apply TriQ.op); rfl) | ((with_reducible apply TriQ.opYes); rfl; rfl; with_reducible rfl)); rfl; rfl; (intro K hK; (with_reducible apply o_pickT); (iterate 4 rfl); exact hK); (first | ((with_reducible apply TriQ.op); rfl) | ((with_reducible apply TriQ.opYes); rfl; rfl; with_reducible rfl)); rfl; rfl; (intro K hK; (with_reducible apply o_move); rfl; rfl; exact hK))
    ((with_reducible apply TriQ.setb 163 (true)); (case h => rfl); (case hi => rfl))
    ((first | ((with_reducible apply TriQ.op); rfl) | ((with_reducible apply TriQ.opYes); rfl; rfl; with_reducible rfl)); rfl; rfl; (intro K hK; (with_reducible apply o_move); rfl; rfl; exact hK); (first | ((with_reducible apply TriQ.op); rfl) | ((with_reducible apply TriQ.opYes); rfl; rfl; with_reducible rfl)); rfl; rfl; (intro K hK; (with_reducible apply o_eql); rfl; rfl; rfl; exact hK); (first | ((with_reducible apply TriQ.op); rfl) | ((with_reducible apply TriQ.opYes); rfl; rfl; with_reducible rfl)); rfl; rfl; (intro K hK; (with_reducible apply o_pickT); (iterate 4 rfl); exact hK); (first | ((with_reducible apply TriQ.op); rfl) | ((with_reducible apply TriQ.opYes); rfl; rfl; with_reducible rfl)); rfl; rfl; (intro K hK; (with_reducible apply o_move); rfl; rfl; exact hK))
    ((with_reducible apply TriQ.setb 167 (true)); (case h => rfl); (case hi => rfl))
    ((first | ((with_reducible apply TriQ.op); rfl) | ((with_reducible apply TriQ.opYes); rfl; rfl; with_reducible rfl)); rfl; rfl; (intro K hK; (with_reducible apply o_move); rfl; rfl; exact hK))
    ((first | ((with_reducible apply TriQ.op); (case hg => rfl)) | ((with_reducible apply TriQ.opYes); (case hg => rfl); (case hy => rfl); (case hb => with_reducible rfl))); (case hd => rfl); (case hn => rfl); (case h => (intro K hK; ((with_reducible apply o_bytesStr (l := raw)); (case he => exact Try.underlying5); (case hx => rfl); (case hr => exact rdw_ex (by (first | ((repeat (first | with_reducible exact Pull.head | with_reducible apply Pull.tail)); done) | (repeat (first | exact Pull.head | apply Pull.tail)))) hr17); (case hn => rfl)); exact hK)))
    ((first | ((with_reducible apply TriQ.op); rfl) | ((with_reducible apply TriQ.opYes); rfl; rfl; with_reducible rfl)); rfl; rfl; (intro K hK; (with_reducible apply o_move); rfl; rfl; exact hK))
    ((first | ((with_reducible apply TriQ.op); (case hg => rfl)) | ((with_reducible apply TriQ.opYes); (case hg => rfl); (case hy => rfl); (case hb => with_reducible rfl))); (case hd => rfl); (case hn => rfl); (case h => (intro K hK; ((with_reducible apply o_bytesStr (l := raw)); (case he => exact Try.underlying5); (case hx => rfl); (case hr => exact rdw_ex (by (first | ((repeat (first | with_reducible exact Pull.head | with_reducible apply Pull.tail)); done) | (repeat (first | exact Pull.head | apply Pull.tail)))) hrr); (case hn => rfl)); exact hK)))
    ((first | ((with_reducible apply TriQ.op); rfl) | ((with_reducible apply TriQ.opYes); rfl; rfl; with_reducible rfl)); rfl; rfl; (intro K hK; (with_reducible apply o_eqlS); rfl; rfl; rfl; exact hK); (first | ((with_reducible apply TriQ.op); rfl) | ((with_reducible apply TriQ.opYes); rfl; rfl; with_reducible rfl)); rfl; rfl; (intro K hK; (with_reducible apply o_pickT); (iterate 4 rfl); exact hK); (first | ((with_reducible apply TriQ.op); rfl) | ((with_reducible apply TriQ.opYes); rfl; rfl; with_reducible rfl)); rfl; rfl; (intro K hK; (with_reducible apply o_move); rfl; rfl; exact hK))
    ((with_reducible apply TriQ.setb 174 (true)); (case h => rfl); (case hi => simp))
    ((first | ((with_reducible apply TriQ.op); rfl) | ((with_reducible apply TriQ.opYes); rfl; rfl; with_reducible rfl)); rfl; rfl; (intro K hK; (with_reducible apply o_move); rfl; rfl; exact hK); (first | ((with_reducible apply TriQ.op); rfl) | ((with_reducible apply TriQ.opYes); rfl; rfl; with_reducible rfl)); rfl; rfl; (intro K hK; (with_reducible apply o_eql); rfl; rfl; rfl; exact hK); (first | ((with_reducible apply TriQ.op); rfl) | ((with_reducible apply TriQ.opYes); rfl; rfl; with_reducible rfl)); rfl; rfl; (intro K hK; (with_reducible apply o_pickT); (iterate 4 rfl); exact hK); (first | ((with_reducible apply TriQ.op); rfl) | ((with_reducible apply TriQ.opYes); rfl; rfl; with_reducible rfl)); rfl; rfl; (intro K hK; (with_reducible apply o_move); rfl; rfl; exact hK))
    ((with_reducible apply TriQ.setb 178 (true)); (case h => rfl); (case hi => rfl))
    ((first | ((with_reducible apply TriQ.op); rfl) | ((with_reducible apply TriQ.opYes); rfl; rfl; with_reducible rfl)); rfl; rfl; (intro K hK; (with_reducible apply o_move); rfl; rfl; exact hK); (first | ((with_reducible apply TriQ.op); rfl) | ((with_reducible apply TriQ.opYes); rfl; rfl; with_reducible rfl)); rfl; rfl; (intro K hK; (with_reducible apply o_eql); rfl; rfl; rfl; exact hK); (first | ((with_reducible apply TriQ.op); rfl) | ((with_reducible apply TriQ.opYes); rfl; rfl; with_reducible rfl)); rfl; rfl; (intro K hK; (with_reducible apply o_pickT); (iterate 4 rfl); exact hK); (first | ((with_reducible apply TriQ.op); rfl) | ((with_reducible apply TriQ.opYes); rfl; rfl; with_reducible rfl)); rfl; rfl; (intro K hK; (with_reducible apply o_assign); rfl; rfl; exact hK); (with_reducible refine TriQ.nil ?_))
    ((with_reducible apply Tri.setb 6 (true)); (case h => rfl); (case hi => rfl))
    ((with_reducible refine Tri.thenN (Tri.ret ?_)))
    (first | with_reducible apply Tri.fin | with_reducible apply Tri.finN)
    case hr => rfl
    case h => exact ResL.cons (Res1.tmp rfl) ResL.nil
    exact fin_law (F := []) w (by (repeat (first | exact Pulls.nil | (apply Pulls.cons; (case a => (first | ((repeat (first | with_reducible exact Gv.Pull.head | with_reducible apply Gv.Pull.tail)); done) | (repeat (first | exact Gv.Pull.head | apply Gv.Pull.tail)))))))) _ rfl
  · have hno : okP (mvP p a) = false := by simpa using hok
    ((with_reducible apply o_callV (hs := ref03_Put_no (mvP p a) (.slice A p.b.length c) hno)); (case hargs => (repeat first | exact evs.nil | (apply evs.cons; case a => rfl))); (case hpre => exact rdw_ex (by (first | ((repeat (first | with_reducible exact Pull.head | with_reducible apply Pull.tail)); done) | (repeat (first | exact Pull.head | apply Pull.tail)))) hr); (case hn => rfl))
    ((with_reducible apply Tri.op); rfl; (with_reducible apply o_move); rfl; rfl; (with_reducible apply Tri.op); rfl; (with_reducible apply o_extract); rfl; rfl; rfl; (with_reducible apply Tri.op); rfl; (with_reducible apply o_extract); rfl; rfl; rfl; (with_reducible apply Tri.op); rfl; (with_reducible apply o_assign); rfl; rfl; (with_reducible apply Tri.op); rfl; (with_reducible apply o_assign); rfl; rfl; (with_reducible refine Tri.nil (Tri.thenN (Tri.seq ?_))))
    have hwp : wrPg (DS.new 16) (mvP p a) = (DS.new 16, 1) := by rw [wrPg, if_neg hok]
    ((first | with_reducible apply Tri.mix [blk b7 98 tabL, blk b3 96 (pgL (mvP p a) (.slice A p.b.length c))] | ((with_reducible apply TriR.mix [blk b7 98 tabL, blk b3 96 (pgL (mvP p a) (.slice A p.b.length c))]); (case hnd => rfl))); (case p => (repeat (first | exact Pulls.nil | (apply Pulls.cons; (case a => (first | ((repeat (first | with_reducible exact Gv.Pull.head | with_reducible apply Gv.Pull.tail)); done) | (repeat (first | exact Gv.Pull.head | apply Gv.Pull.tail)))))))); (dsimp only [List.length]))
    ((first | ((with_reducible apply TriM.q 0); (case ho => rfl); (case hg => rfl)) | ((with_reducible apply TriM.qYes 0); (case ho => rfl); (case hg => rfl); (case hyl => rfl); (case hb => with_reducible rfl))); (case hB => kernel_rfl); (case hd => rfl); (case hn => rfl); (case h => (intro F K hK; ((with_reducible apply o_loadAll); (case hx => rfl); (case p => (first | ((repeat (first | with_reducible exact Pull.head | with_reducible apply Pull.tail)); done) | (repeat (first | exact Pull.head | apply Pull.tail)))); (case hl => exact tabL_length); (case hn => rfl)); exact hK)))
    ((first | ((with_reducible apply TriM.q 1); rfl; rfl) | ((with_reducible apply TriM.qYes 1); rfl; rfl; rfl; with_reducible rfl)); kernel_rfl; rfl; rfl; (intro F K hK; (with_reducible apply o_move); rfl; rfl; exact hK))
    ((first | ((with_reducible apply TriM.q 2); (case ho => rfl); (case hg => rfl)) | ((with_reducible apply TriM.qYes 2); (case ho => rfl); (case hg => rfl); (case hyl => rfl); (case hb => with_reducible rfl))); (case hB => kernel_rfl); (case hd => rfl); (case hn => rfl); (case h => (intro F K hK; ((with_reducible apply o_loadAll (cs := pgL (mvP p a) (.slice A p.b.length c))); (case hx => rfl); (case p => exact (by (first | ((repeat (first | with_reducible exact Pull.head | with_reducible apply Pull.tail)); done) | (repeat (first | exact Pull.head | apply Pull.tail))))); (case hl => rfl); (case hn => rfl)); exact hK)))
    ((first | ((with_reducible apply TriM.q 3); (case ho => rfl); (case hg => rfl)) | ((with_reducible apply TriM.qYes 3); (case ho => rfl); (case hg => rfl); (case hyl => rfl); (case hb => with_reducible rfl))); (case hB => kernel_rfl); (case hd => rfl); (case hn => rfl); (case h => (intro F K hK; (with_reducible apply o_callV (hs := law03_to (mvP p a) A p.b.length c)); (case hargs => (repeat first | exact evs.nil | (apply evs.cons; case a => rfl))); (case hpre => exact fun _ _ => trivial); (case hn => rfl); exact hK)))
    ((with_reducible apply TriM.a 4); (case ho => rfl); (case hg => rfl); (case hr => kernel_rfl); (try dsimp only [List.cons_append, List.nil_append]))
    ((with_reducible apply o_callS (hs := page_Write d (DS.new 16) (mvP p a) (.slice A p.b.length c) (hp w) hrm hgm hok0 (by omega))); (case hargs => (repeat first | exact evs.nil | (apply evs.cons; case a => rfl))); (case p => (repeat (first | exact Pulls.nil | (apply Pulls.cons; (case a => (first | ((repeat (first | with_reducible exact Gv.Pull.head | with_reducible apply Gv.Pull.tail)); done) | (repeat (first | exact Gv.Pull.head | apply Gv.Pull.tail)))))))); (case hn => rfl))
    rintro r3 H3 ⟨rfl, rfl⟩
    (try dsimp only [List.cons_append, List.nil_append])
    rw [hwp]
    ((with_reducible apply TriM.back); (case p => (repeat (first | exact Pulls.nil | (apply Pulls.cons; (case a => (first | ((repeat (first | with_reducible exact Gv.Pull.head | with_reducible apply Gv.Pull.tail)); done) | (repeat (first | exact Gv.Pull.head | apply Gv.Pull.tail)))))))))
    ((first | ((with_reducible apply TriM.q 5); rfl; rfl) | ((with_reducible apply TriM.qYes 5); rfl; rfl; rfl; with_reducible rfl)); kernel_rfl; rfl; rfl; (intro F K hK; (with_reducible apply o_assign); rfl; rfl; exact hK))
    ((with_reducible apply TriM.nil); (case hr => kernel_rfl); (try dsimp only [List.cons_append, List.nil_append]))
    ((with_reducible refine Tri.thenN (Tri.seq (Tri.seq (Tri.region ?_)))); (with_reducible apply Tri.op); rfl)
    ((with_reducible apply o_callV (hs := law03_puts)); (case hargs => (repeat first | exact evs.nil | (apply evs.cons; case a => rfl))); (case hpre => exact fun _ _ => trivial); (case hn => rfl))
    ((with_reducible apply Tri.op); rfl; (with_reducible apply o_not); rfl; rfl; (with_reducible apply Tri.op); rfl; (with_reducible apply o_move); rfl; rfl)
    ((with_reducible apply Tri.setb 51 (false)); (case h => rfl); (case hi => rfl))
    ((with_reducible apply Tri.opYes); rfl; rfl; rfl; (with_reducible apply o_move); rfl; rfl; (with_reducible apply Tri.opYes); rfl; rfl; rfl; (with_reducible apply o_neq); rfl; rfl; rfl; (with_reducible apply Tri.op); rfl; (with_reducible apply o_pickF); (iterate 4 rfl); (with_reducible apply Tri.op); rfl; (with_reducible apply o_move); rfl; rfl)
    ((with_reducible apply Tri.setb 55 (false)); (case h => rfl); (case hi => rfl))
    ((with_reducible apply Tri.opYes); rfl; rfl; rfl; (with_reducible apply o_move); rfl; rfl; (with_reducible apply Tri.opYes); rfl; rfl; rfl; (with_reducible apply o_eql); rfl; rfl; rfl; (with_reducible apply Tri.opYes); rfl; rfl; rfl; (with_reducible apply o_move); rfl; rfl; (with_reducible apply Tri.opYes); rfl; rfl; rfl; (with_reducible apply o_neqB); rfl; rfl; rfl; (with_reducible apply Tri.op); rfl; (with_reducible apply o_pickF); (iterate 4 rfl); (with_reducible refine Tri.nil (Tri.thenN ?_)))
    ((with_reducible apply Tri.setb 60 (false)); (case h => rfl); (case hi => rfl))
    ((with_reducible apply Tri.condF); rfl; rfl; (with_reducible refine Tri.skip (Tri.thenN (Tri.seq (Tri.seq (Tri.region ?_))))); (with_reducible apply Tri.op); rfl; (with_reducible apply o_move); rfl; rfl; (with_reducible apply Tri.op); rfl; (with_reducible apply o_neq); rfl; rfl; rfl; (with_reducible refine Tri.nil (Tri.thenN ?_)))
    ((with_reducible apply Tri.setb 62 (true)); (case h => rfl); (case hi => rfl))
    ((with_reducible apply Tri.condT); rfl; rfl; (with_reducible refine Tri.seq (Tri.region ?_)); (with_reducible apply Tri.op); rfl; (with_reducible apply o_move); rfl; rfl; (with_reducible apply Tri.op); rfl; (with_reducible apply o_eql); rfl; rfl; rfl; (with_reducible apply Tri.op); rfl; (with_reducible apply o_assign); rfl; rfl; (with_reducible refine Tri.nil (Tri.thenN (Tri.ret (Tri.thenR ?_)))))
    ((with_reducible apply Tri.setb 6 (true)); (case h => rfl); (case hi => rfl))
    (first | with_reducible apply Tri.fin | with_reducible apply Tri.finN)
    case hr => rfl
    case h => exact ResL.cons (Res1.tmp rfl) ResL.nil
    exact fin_law (F := []) w (by (repeat (first | exact Pulls.nil | (apply Pulls.cons; (case a => (first | ((repeat (first | with_reducible exact Gv.Pull.head | with_reducible apply Gv.Pull.tail)); done) | (repeat (first | exact Gv.Pull.head | apply Gv.Pull.tail)))))))) _ rfl
end Go.Proofs.Ytmomlimhjnfadaa
