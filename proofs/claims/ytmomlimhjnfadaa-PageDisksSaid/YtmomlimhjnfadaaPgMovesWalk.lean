/- page: a page that stands where it doesn't belong isn't read there: the walk. -/
import Derived.Test.YtmomlimhjnfadaaDvPlain2
import Derived.Test.YtmomlimhjnfadaaPgWalk4
import Derived.Test.YtmomlimhjnfadaaPgLaw
namespace Go.Proofs.Ytmomlimhjnfadaa
open Go Go.RowKit Go.Gv
set_option linter.unusedVariables false
set_option linter.unusedSimpArgs false

/-- a page elsewhere -/
def mvP (p : PG) (a : Nat) : PG := ⟨p.k, (a : Int), p.g, p.b⟩
def kindsL : List Value := [.int .u8 83, .int .u8 76, .int .u8 73, .int .u8 66]
theorem kindsL_get {i : Nat} (h : i < 4) : ∃ o : UInt8, kindsL[i * 1]? = some (.int .u8 (o.toNat : Int)) := by
  match i, h with
  | 0, _ => exact ⟨83, rfl⟩
  | 1, _ => exact ⟨76, rfl⟩
  | 2, _ => exact ⟨73, rfl⟩
  | 3, _ => exact ⟨66, rfl⟩
theorem u8_eq {x y : UInt8} : ((x.toNat : Nat) : Int) = (y.toNat : Int) ↔ x = y := ⟨fun h => UInt8.toNat_inj.1 (by omega), fun h => by rw [h]⟩
theorem e6_of {p : PG} {a k : Nat} {o : UInt8} {r6 : PG} {e6 : Nat} (hro : (r6, e6) = if a = k ∧ p.k = o then (mvP p a, 0) else (zeroP, 3)) : decide ((e6 : Int) = 0) = (decide (a = k) && decide ((o.toNat : Int) = ((mvP p a).k.toNat : Int))) := by
  by_cases h : a = k ∧ p.k = o
  · rw [if_pos h] at hro
    cases hro
    rw [decide_eq_true h.1, decide_eq_true (show ((o.toNat : Nat) : Int) = ((mvP p a).k.toNat : Int) by rw [← h.2]; rfl)]
    rfl
  · rw [if_neg h] at hro
    cases hro
    by_cases h1 : a = k
    · rw [decide_eq_false (show ¬ ((o.toNat : Nat) : Int) = ((mvP p a).k.toNat : Int) from fun q => h ⟨h1, (UInt8.toNat_inj.1 (by have : ((o.toNat : Nat) : Int) = (p.k.toNat : Int) := q; omega))⟩), Bool.and_false]
      rfl
    · rw [decide_eq_false h1]; rfl
set_option maxHeartbeats 16000000 in
theorem pageMoves_walk (w : World) (p : PG) (hg : p.g < 18446744073709551616) (A : Option Addr) (c : Nat) (hr : RdW w (.slice A p.b.length c) p.b.length (B8 p.b)) (x : Int) :
    Calls Try.prog 8 #[pgV p (.slice A p.b.length c), .int .i64 x] w (Ret (LawR w)) := by
  refine Calls.enter Try.func8 rfl rfl rfl (St.rebase w) ?_
  simp only [argSlots]
  ((with_reducible refine Tri.seq (Tri.region ?_)); (with_reducible apply Tri.op); rfl)
  (first | ((with_reducible apply o_boxA); (case hx => rfl); (case hn => rfl); intro b2) | ((with_reducible apply o_box1); (case hx => rfl); (case h1 => rfl); (case hn => rfl); intro b2))
  ((with_reducible apply Tri.op); rfl; (with_reducible apply o_assign); rfl; rfl; (with_reducible refine Tri.nil (Tri.thenN (Tri.seq (Tri.region ?_)))); (with_reducible apply Tri.op); rfl)
  ((with_reducible apply o_callV (hs := crc_New)); (case hargs => (repeat first | exact evs.nil | (apply evs.cons; case a => rfl))); (case hpre => exact fun _ _ => trivial); (case hn => rfl))
  ((with_reducible apply Tri.op); rfl)
  ((with_reducible apply o_alloc); (case hn => rfl); intro b5)
  ((with_reducible apply Tri.op); rfl)
  ((with_reducible apply o_storeAll); (case hx => rfl); (case hy => rfl); (case p => (repeat first | with_reducible exact Pull.head | apply Pull.tail)); (case hl => exact tabL_length); (case hc => exact List.length_replicate); (case h1 => exact tabL_one))
  ((with_reducible refine Tri.nil (Tri.thenN (Tri.seq (Tri.region ?_)))); (with_reducible apply Tri.op); rfl)
  ((with_reducible apply o_callR (hs := disk_NewD 20 (by omega))); (case hargs => (repeat first | exact evs.nil | (apply evs.cons; case a => rfl))); (case hpre => exact fun _ _ => trivial); (case hn => rfl))
  rintro r1 H1 ⟨d, rfl, rfl⟩
  (try dsimp only [List.cons_append, List.nil_append])
  ((with_reducible apply Tri.op); rfl; (with_reducible apply o_move); rfl; rfl; (with_reducible apply Tri.op); rfl; (with_reducible apply o_extract); rfl; rfl; rfl; (with_reducible apply Tri.op); rfl; (with_reducible apply o_extract); rfl; rfl; rfl; (with_reducible apply Tri.op); rfl; (with_reducible apply o_assign); rfl; rfl; (with_reducible apply Tri.op); rfl; (with_reducible apply o_assign); rfl; rfl; (with_reducible refine Tri.nil (Tri.thenN (Tri.seq (Tri.region ?_)))); (with_reducible apply Tri.op); rfl; (with_reducible apply o_fieldAddr); rfl; rfl; (with_reducible apply Tri.op); rfl; (with_reducible apply o_load); rfl; (repeat first | with_reducible exact Pull.head | apply Pull.tail); rfl; rfl; (with_reducible apply Tri.op); rfl; (with_reducible apply o_conv64); rfl; rfl; (with_reducible apply Tri.op); rfl; (with_reducible apply o_rem); rfl; rfl; rfl; (omega); (omega); (with_reducible apply Tri.op); rfl; (with_reducible apply o_convI); rfl; rfl; (first | decide | (exact wrap_i64 (by omega)) | (exact wrap_u8 (by omega)) | (exact wrap_u16 (by omega)) | (exact wrap_u32 (by omega)) | (exact wrap_u64 (by omega))); (with_reducible apply Tri.op); rfl; (with_reducible apply o_fieldAddr); rfl; rfl; (with_reducible apply Tri.op); rfl)
  obtain ⟨a, ha⟩ : ∃ a : Nat, (a : Int) = p.a % 18446744073709551616 % 20 := ⟨(p.a % 18446744073709551616 % 20).toNat, by omega⟩
  have ha20 : a < 20 := by omega
  ((with_reducible apply Tri.seti 28 ((a : Int))); (case h => rfl); (case hi => omega))
  ((with_reducible apply o_store); rfl; rfl; rfl; (repeat first | with_reducible exact Pull.head | apply Pull.tail); (exact Nat.le_of_ble_eq_true rfl); (with_reducible refine Tri.nil (Tri.thenN (Tri.seq (Tri.region ?_)))); (with_reducible apply Tri.op); rfl)
  ((with_reducible apply Tri.eqA (A := blk b2 96 _) (B := blk b2 96 (pgL (mvP p a) (.slice A p.b.length c)))); (case p => (repeat first | with_reducible exact Pull.head | apply Pull.tail)); (case e => rfl))
  skip
  ((with_reducible apply o_loadAll (cs := pgL (mvP p a) (.slice A p.b.length c))); (case hx => rfl); (case p => exact (by (repeat first | with_reducible exact Pull.head | apply Pull.tail))); (case hl => rfl); (case hn => rfl))
  ((with_reducible apply Tri.op); rfl)
  by_cases hok : okP (mvP p a) = true
  · have hpl := putP_length (mvP p a) (okP_spec hok).2.2.2
    have hgm : (mvP p a).g < 18446744073709551616 := hg
    have hget := get_put (mvP p a) hok hgm
    ((with_reducible apply o_callR (hs := ref03_Put (mvP p a) (.slice A p.b.length c) hok hgm)); (case hargs => (repeat first | exact evs.nil | (apply evs.cons; case a => rfl))); (case hpre => exact rdw_ex (by (repeat first | with_reducible exact Pull.head | apply Pull.tail)) hr); (case hn => rfl))
    rintro r2 H2 ⟨g, rfl, rfl⟩
    (try dsimp only [List.cons_append, List.nil_append])
    refine Tri.open (A := blk g 5 _) (by (repeat first | with_reducible exact Pull.head | apply Pull.tail)) (fun h1 hb => ?_)
    have hb1 := blk_Rd (m := 256) (cap := 256) (xs := B8 (putP (mvP p a))) hb (by omega) (List.take_length)
    ((with_reducible apply Tri.op); rfl; (with_reducible apply o_move); rfl; rfl; (with_reducible apply Tri.op); rfl; (with_reducible apply o_extract); rfl; rfl; rfl; (with_reducible apply Tri.op); rfl; (with_reducible apply o_extract); rfl; rfl; rfl; (with_reducible apply Tri.op); rfl; (with_reducible apply o_assign); rfl; rfl; (with_reducible apply Tri.op); rfl; (with_reducible apply o_assign); rfl; rfl; (with_reducible refine Tri.nil (Tri.thenN (Tri.seq (Tri.seq (Tri.region ?_))))); (with_reducible apply Tri.op); rfl)
    ((with_reducible apply o_callV (hs := law03_puts)); (case hargs => (repeat first | exact evs.nil | (apply evs.cons; case a => rfl))); (case hpre => exact fun _ _ => trivial); (case hn => rfl))
    ((with_reducible apply Tri.op); rfl; (with_reducible apply o_not); rfl; rfl; (with_reducible apply Tri.op); rfl; (with_reducible apply o_move); rfl; rfl)
    ((with_reducible apply Tri.setb 37 (false)); (case h => rfl); (case hi => rfl))
    ((with_reducible apply Tri.opYes); rfl; rfl; rfl; (with_reducible apply o_move); rfl; rfl; (with_reducible apply Tri.opYes); rfl; rfl; rfl; (with_reducible apply o_neq); rfl; rfl; rfl; (with_reducible apply Tri.op); rfl; (with_reducible apply o_pickF); (iterate 4 rfl); (with_reducible apply Tri.op); rfl; (with_reducible apply o_move); rfl; rfl)
    ((with_reducible apply Tri.setb 41 (false)); (case h => rfl); (case hi => rfl))
    ((with_reducible apply Tri.opYes); rfl; rfl; rfl; (with_reducible apply o_move); rfl; rfl; (with_reducible apply Tri.opYes); rfl; rfl; rfl; (with_reducible apply o_not); rfl; rfl; (with_reducible apply Tri.op); rfl; (with_reducible apply o_pickF); (iterate 4 rfl); (with_reducible refine Tri.nil (Tri.thenN ?_)))
    ((with_reducible apply Tri.setb 44 (false)); (case h => rfl); (case hi => rfl))
    ((with_reducible apply Tri.condF); rfl; rfl; (with_reducible refine Tri.skip (Tri.thenN (Tri.seq (Tri.region ?_)))); (with_reducible apply Tri.op); rfl; (with_reducible apply o_move); rfl; rfl; (with_reducible apply Tri.op); rfl; (with_reducible apply o_conv64); rfl; rfl; (with_reducible apply Tri.op); rfl; (with_reducible apply o_rem); rfl; rfl; rfl; (omega); (omega); (with_reducible apply Tri.op); rfl; (with_reducible apply o_convI); rfl; rfl; (first | decide | (exact wrap_i64 (by omega)) | (exact wrap_u8 (by omega)) | (exact wrap_u16 (by omega)) | (exact wrap_u32 (by omega)) | (exact wrap_u64 (by omega))); (with_reducible apply Tri.op); rfl; (with_reducible apply o_assign); rfl; rfl; (with_reducible refine Tri.nil (Tri.thenN (Tri.seq (Tri.region ?_)))); (with_reducible apply Tri.op); rfl; (with_reducible apply o_move); rfl; rfl; (with_reducible apply Tri.op); rfl; (with_reducible apply o_move); rfl; rfl; (with_reducible apply Tri.op); rfl; (with_reducible apply o_move); rfl; rfl; (with_reducible apply Tri.op); rfl)
    obtain ⟨k, hk⟩ : ∃ k : Nat, (k : Int) = x % 18446744073709551616 % 20 := ⟨(x % 18446744073709551616 % 20).toNat, by omega⟩
    have hk20 : k < 20 := by omega
    ((with_reducible apply Tri.seti 10 ((k : Int))); (case h => rfl); (case hi => omega))
    ((with_reducible apply Tri.seti 55 ((k : Int))); (case h => rfl); (case hi => omega))
    have hAl : (DS.new 20).A.length = 5120 := DS.new_len 20
    have hon := DS.new_on 20 (by omega)
    have hok0 := DS.new_ok 20 (by omega)
    obtain ⟨e0, hon1, hV1, hA1, hW1⟩ := DS.wrs_page hon k (putP (mvP p a)) hpl (by omega)
    have hWl : (DS.new 20).W.length = 0 := by rw [DS.new_W]; rfl
    ((with_reducible apply o_callS (hs := page_WriteRaw d (DS.new 20) (k : Int) (.slice (some ⟨g, 0, none⟩) 256 256) (putP (mvP p a)) h1 (by rw [hpl]; exact hb1) hok0 (by omega) (by omega) (by omega))); (case hargs => (repeat first | exact evs.nil | (apply evs.cons; case a => rfl))); (case p => (repeat first | exact Pulls.nil | (apply Pulls.cons; repeat first | with_reducible exact Pull.head | apply Pull.tail))); (case hn => rfl))
    rintro r3 H3 ⟨rfl, rfl⟩
    rw [padP hok, hpl, show 256 / 64 = 4 from rfl, e0]
    obtain ⟨S1, hS1⟩ : ∃ S1, S1 = ((DS.new 20).wrs ((k : Int) * 4) (secs (putP (mvP p a)) 4)).1 := ⟨_, rfl⟩
    rw [← hS1] at hon1 hV1 hA1 hW1 ⊢
    have hok1 := hon1.1
    have hAl1 : S1.A.length = 5120 := by rw [hA1, hAl]
    have hpg : pgAt S1.V k = putP (mvP p a) := by
      rw [hV1]
      exact pgAt_same _ _ _ (by rw [DS.V_length hok0]; omega) hpl
    have hrd : ∀ kind, rdPg S1 (k : Int) kind = if a = k ∧ p.k = kind then (mvP p a, 0) else (zeroP, 3) := by
      intro kind
      rw [rdPg_on hon1 k (by omega), hpg, hget]
      by_cases h : a = k ∧ p.k = kind
      · rw [if_pos h, if_pos ⟨rfl, by show ((a : Nat) : Int) = _; omega, h.2⟩]
      · rw [if_neg h, if_neg (fun q => h ⟨by have : ((a : Nat) : Int) = (k : Int) := q.2.1; omega, q.2.2⟩)]
    (try dsimp only [List.cons_append, List.nil_append])
    ((with_reducible apply Tri.op); rfl; (with_reducible apply o_assign); rfl; rfl; (with_reducible refine Tri.nil (Tri.thenN (Tri.seq (Tri.region ?_)))); (with_reducible apply Tri.op); rfl)
    ((with_reducible apply o_loadAll); (case hx => rfl); (case p => (repeat first | with_reducible exact Pull.head | apply Pull.tail)); (case hl => exact tabL_length); (case hn => rfl))
    ((with_reducible apply Tri.op); rfl; (with_reducible apply o_move); rfl; rfl; (with_reducible apply Tri.op); rfl; (with_reducible apply o_move); rfl; rfl; (with_reducible apply Tri.op); rfl; (with_reducible apply o_fieldAddr); rfl; rfl; (with_reducible apply Tri.op); rfl; (with_reducible apply o_load); rfl; (repeat first | with_reducible exact Pull.head | apply Pull.tail); rfl; rfl; (with_reducible apply Tri.op); rfl)
    ((with_reducible apply o_callS (hs := page_Read d S1 (k : Int) p.k hok1 (by omega) (by omega))); (case hargs => (repeat first | exact evs.nil | (apply evs.cons; case a => rfl))); (case p => (repeat first | exact Pulls.nil | (apply Pulls.cons; repeat first | with_reducible exact Pull.head | apply Pull.tail))); (case hn => rfl))
    rintro r4 H4 ⟨A4, c4, rfl, rfl⟩
    obtain ⟨R, hR⟩ : ∃ R, R = rdPg S1 (k : Int) p.k := ⟨_, rfl⟩
    rw [← hR]
    have hR2 := hrd p.k
    rw [← hR] at hR2
    obtain ⟨r, e⟩ := R
    dsimp only at hR2 ⊢
    (try dsimp only [List.cons_append, List.nil_append])
    ((with_reducible apply Tri.op); rfl; (with_reducible apply o_move); rfl; rfl; (with_reducible apply Tri.op); rfl; (with_reducible apply o_extract); rfl; rfl; rfl; (with_reducible apply Tri.op); rfl; (with_reducible apply o_extract); rfl; rfl; rfl; (with_reducible apply Tri.op); rfl)
    ((with_reducible apply o_alloc); (case hn => rfl); intro b12)
    ((with_reducible apply Tri.op); rfl)
    ((with_reducible apply o_storeAll (ys := pgL r (.slice A4 r.b.length c4))); (case hx => rfl); (case hy => rfl); (case p => (repeat first | with_reducible exact Pull.head | apply Pull.tail)); (case hl => rfl); (case hc => rfl); (case h1 => exact pgL_one r A4 _ c4))
    ((with_reducible apply Tri.op); rfl; (with_reducible apply o_assign); rfl; rfl; (with_reducible refine Tri.nil (Tri.thenN (Tri.seq (Tri.seq (Tri.region ?_))))); (with_reducible apply Tri.op); rfl; (with_reducible apply o_move); rfl; rfl; (with_reducible apply Tri.op); rfl; (with_reducible apply o_neq); rfl; rfl; rfl; (with_reducible apply Tri.op); rfl; (with_reducible apply o_move); rfl; rfl)
    ((with_reducible apply Tri.setb 69 (false)); (case h => rfl); (case hi => rfl))
    ((with_reducible apply Tri.opYes); rfl; rfl; rfl; (with_reducible apply o_move); rfl; rfl; (with_reducible apply Tri.opYes); rfl; rfl; rfl; (with_reducible apply o_eql); rfl; rfl; rfl; (with_reducible apply Tri.opYes); rfl; rfl; rfl; (with_reducible apply o_move); rfl; rfl; (with_reducible apply Tri.opYes); rfl; rfl; rfl; (with_reducible apply o_fieldAddr); rfl; rfl; (with_reducible apply Tri.opYes); rfl; rfl; rfl; (with_reducible apply o_load); rfl; (repeat first | with_reducible exact Pull.head | apply Pull.tail); rfl; rfl; (with_reducible apply Tri.opYes); rfl; rfl; rfl; (with_reducible apply o_eql); rfl; rfl; rfl; (with_reducible apply Tri.opYes); rfl; rfl; rfl; (with_reducible apply o_neqB); rfl; rfl; rfl; (with_reducible apply Tri.op); rfl; (with_reducible apply o_pickF); (iterate 4 rfl); (with_reducible apply Tri.op); rfl; (with_reducible apply o_move); rfl; rfl)
    have hE : (a = k ∧ r = mvP p a ∧ e = 0) ∨ (a ≠ k ∧ r = zeroP ∧ e = 3) := by
      by_cases hak : a = k
      · rw [if_pos ⟨hak, rfl⟩] at hR2
        cases hR2
        exact .inl ⟨hak, rfl, rfl⟩
      · rw [if_neg (fun h => hak h.1)] at hR2
        cases hR2
        exact .inr ⟨hak, rfl, rfl⟩
    have hEk : decide ((e : Int) = 0) = decide ((k : Int) = (mvP p a).a) := by
      apply decide_eq_decide.2
      show (e : Int) = 0 ↔ (k : Int) = (a : Int)
      rcases hE with ⟨h, _, rfl⟩ | ⟨h, _, rfl⟩ <;> omega
    ((with_reducible apply Tri.setb 78 (false)); (case h => rfl); (case hi => (rw [hEk]; simp)))
    ((with_reducible apply Tri.opYes); rfl; rfl; rfl; (with_reducible apply o_move); rfl; rfl; (with_reducible apply Tri.opYes); rfl; rfl; rfl; (with_reducible apply o_neq); rfl; rfl; rfl; (with_reducible apply Tri.opYes); rfl; rfl; rfl; (with_reducible apply o_move); rfl; rfl)
    rcases hE with ⟨hak, rfl, rfl⟩ | ⟨hak, rfl, rfl⟩
    · ((with_reducible apply Tri.setb 81 (false)); (case h => rfl); (case hi => rfl))
      ((iterate 2 (with_reducible apply Tri.opNo (c := false)); (iterate 6 rfl)); (with_reducible apply Tri.opYes); rfl; rfl; rfl; (with_reducible apply o_pickF); (iterate 4 rfl); (with_reducible apply Tri.op); rfl; (with_reducible apply o_pickF); (iterate 4 rfl); (with_reducible refine Tri.nil (Tri.thenN ?_)); (with_reducible apply Tri.condF); rfl; rfl; (with_reducible refine Tri.skip (Tri.thenN (Tri.seq (Tri.region ?_)))); (with_reducible apply Tri.op); rfl)
      ((with_reducible apply Tri.setb 85 (false)); (case h => rfl); (case hi => rfl))
      skip
      ((with_reducible apply o_litSl (ys := kindsL)); (case hp => (repeat first | exact pev.nil | (apply pev.cons; case a => rfl))); (case hm => rfl); (case hf => rfl); (case hn => rfl); intro vl)
      ((with_reducible apply Tri.op); rfl; (with_reducible apply o_assign); rfl; rfl; (with_reducible refine Tri.nil (Tri.thenN (Tri.seq (Tri.seq (Tri.region ?_))))); (with_reducible apply Tri.op); rfl; (with_reducible apply o_assign); rfl; rfl; (with_reducible refine Tri.nil (Tri.thenN (Tri.block ?_))))
      ((first | with_reducible apply Tri.loop (α := { i : Nat // i ≤ 4 }) (m := fun x => 4 - x.1) (Lx := fun y => [(2, .pointer (some ⟨b2, 0, none⟩)), (5, .pointer (some ⟨b5, 0, none⟩)), (6, .pointer (some ⟨d, 0, none⟩)), (10, .int .i64 (k : Int)), (12, .pointer (some ⟨b12, 0, none⟩)), (13, .int .i64 (0 : Int)), (14, vl), (15, .int .i64 (y.1 : Int))]) (Hx := fun y => [own 5 1 vl 4 kindsL, blk b12 102 (pgL (mvP p a) (.slice A4 (mvP p a).b.length c4)), own 5 1 (.slice A4 (mvP p a).b.length c4) (mvP p a).b.length (B8 (mvP p a).b), DSK d S1, blk b5 98 tabL, blk b2 96 (pgL (mvP p a) (.slice A p.b.length c)), Ex (hp w)]) (x0 := ⟨0, Nat.zero_le _⟩) | with_reducible apply TriR.loop (α := { i : Nat // i ≤ 4 }) (m := fun x => 4 - x.1) (Lx := fun y => [(2, .pointer (some ⟨b2, 0, none⟩)), (5, .pointer (some ⟨b5, 0, none⟩)), (6, .pointer (some ⟨d, 0, none⟩)), (10, .int .i64 (k : Int)), (12, .pointer (some ⟨b12, 0, none⟩)), (13, .int .i64 (0 : Int)), (14, vl), (15, .int .i64 (y.1 : Int))]) (Hx := fun y => [own 5 1 vl 4 kindsL, blk b12 102 (pgL (mvP p a) (.slice A4 (mvP p a).b.length c4)), own 5 1 (.slice A4 (mvP p a).b.length c4) (mvP p a).b.length (B8 (mvP p a).b), DSK d S1, blk b5 98 tabL, blk b2 96 (pgL (mvP p a) (.slice A p.b.length c)), Ex (hp w)]) (x0 := ⟨0, Nat.zero_le _⟩)); (case hL => ((try dsimp only); (repeat (first | exact trivial | refine And.intro (by rfl) ?_)))); (case hH => ((try dsimp only); apply St.all; (repeat first | exact Pulls.nil | (apply Pulls.cons; repeat first | with_reducible exact Pull.head | apply Pull.tail))))); (rintro ⟨i, hi⟩ mx hmx; (try dsimp only at hmx ⊢))
      ((with_reducible refine Tri.seq (Tri.seq (Tri.region ?_))); (with_reducible apply Tri.op); rfl; (with_reducible apply o_move); rfl; rfl; (with_reducible apply Tri.op); rfl; (with_reducible apply o_lss); rfl; rfl; rfl; (with_reducible refine Tri.nil (Tri.thenN ?_)))
      ((first | with_reducible apply Tri.condD | with_reducible apply TriR.condD); (case hc => rfl); (all_goals intro h))
      · obtain ⟨o, ho⟩ := kindsL_get (show i < 4 by omega)
        ((with_reducible refine Tri.skip (Tri.thenN (Tri.seq (Tri.block (Tri.seq (Tri.region ?_)))))); (with_reducible apply Tri.op); rfl; (with_reducible apply o_move); rfl; rfl; (with_reducible apply Tri.op); rfl; (with_reducible apply o_move); rfl; rfl; (with_reducible apply Tri.op); rfl)
        ((with_reducible apply o_ixOwn (j := i)); (case hx => rfl); (case hy => rfl); (case p => (repeat first | with_reducible exact Pull.head | apply Pull.tail)); (case hj => rfl); (case hlt => omega); (case hn => rfl))
        ((with_reducible apply Tri.op); rfl)
        ((with_reducible apply o_loadOwn); (case hx => rfl); (case p => (repeat first | with_reducible exact Pull.head | apply Pull.tail)); (case hv => exact ho); (case hn => rfl))
        ((with_reducible apply Tri.op); rfl; (with_reducible apply o_assign); rfl; rfl; (with_reducible refine Tri.nil (Tri.thenN (Tri.seq (Tri.region ?_)))); (with_reducible apply Tri.op); rfl)
        ((with_reducible apply o_loadAll); (case hx => rfl); (case p => (repeat first | with_reducible exact Pull.head | apply Pull.tail)); (case hl => exact tabL_length); (case hn => rfl))
        ((with_reducible apply Tri.op); rfl; (with_reducible apply o_move); rfl; rfl; (with_reducible apply Tri.op); rfl; (with_reducible apply o_move); rfl; rfl; (with_reducible apply Tri.op); rfl; (with_reducible apply o_move); rfl; rfl; (with_reducible apply Tri.op); rfl)
        ((with_reducible apply o_callS (hs := page_Read d S1 (k : Int) o hok1 (by omega) (by omega))); (case hargs => (repeat first | exact evs.nil | (apply evs.cons; case a => rfl))); (case p => (repeat first | exact Pulls.nil | (apply Pulls.cons; repeat first | with_reducible exact Pull.head | apply Pull.tail))); (case hn => rfl))
        rintro r6 H6 ⟨A6, c6, rfl, rfl⟩
        have hro := hrd o
        obtain ⟨R6, hR6⟩ : ∃ R, R = rdPg S1 (k : Int) o := ⟨_, rfl⟩
        rw [← hR6] at hro ⊢
        obtain ⟨r6, e6⟩ := R6
        dsimp only at hro ⊢
        (try dsimp only [List.cons_append, List.nil_append])
        ((with_reducible apply Tri.op); rfl; (with_reducible apply o_move); rfl; rfl; (with_reducible apply Tri.op); rfl; (with_reducible apply o_extract); rfl; rfl; rfl; (with_reducible apply Tri.op); rfl; (with_reducible apply o_extract); rfl; rfl; rfl; (with_reducible apply Tri.op); rfl)
        ((with_reducible apply o_alloc); (case hn => rfl); intro b17)
        ((with_reducible apply Tri.op); rfl)
        ((with_reducible apply o_storeAll (ys := pgL r6 (.slice A6 r6.b.length c6))); (case hx => rfl); (case hy => rfl); (case p => (repeat first | with_reducible exact Pull.head | apply Pull.tail)); (case hl => rfl); (case hc => rfl); (case h1 => exact pgL_one r6 A6 _ c6))
        ((with_reducible apply Tri.op); rfl; (with_reducible apply o_assign); rfl; rfl; (with_reducible refine Tri.nil (Tri.thenN (Tri.seq (Tri.region ?_)))); (with_reducible apply Tri.op); rfl; (with_reducible apply o_move); rfl; rfl; (with_reducible apply Tri.op); rfl; (with_reducible apply o_eql); rfl; rfl; rfl; (with_reducible apply Tri.op); rfl; (with_reducible apply o_move); rfl; rfl; (with_reducible apply Tri.op); rfl; (with_reducible apply o_fieldAddr); rfl; rfl; (with_reducible apply Tri.op); rfl; (with_reducible apply o_load); rfl; (repeat first | with_reducible exact Pull.head | apply Pull.tail); rfl; rfl; (with_reducible apply Tri.op); rfl; (with_reducible apply o_eql); rfl; rfl; rfl; (with_reducible apply Tri.op); rfl; (with_reducible apply o_move); rfl; rfl)
        ((with_reducible apply Tri.setb 109 (true)); (case h => rfl); (case hi => (rw [decide_eq_true]; show (k : Int) = (a : Int); omega)))
        ((with_reducible apply Tri.opYes); rfl; rfl; rfl; (with_reducible apply o_move); rfl; rfl; (with_reducible apply Tri.opYes); rfl; rfl; rfl; (with_reducible apply o_fieldAddr); rfl; rfl; (with_reducible apply Tri.opYes); rfl; rfl; rfl; (with_reducible apply o_load); rfl; (repeat first | with_reducible exact Pull.head | apply Pull.tail); rfl; rfl; (with_reducible apply Tri.opYes); rfl; rfl; rfl; (with_reducible apply o_eql); rfl; rfl; rfl; (with_reducible apply Tri.op); rfl; (with_reducible apply o_pickT); (iterate 4 rfl); (with_reducible apply Tri.op); rfl; (with_reducible apply o_neqB); rfl; rfl; rfl; (with_reducible refine Tri.nil (Tri.thenN ?_)))
        ((with_reducible apply Tri.setb 115 (false)); (case h => rfl); (case hi => (rw [e6_of hro]; (rw [decide_eq_true hak]; simp))))
        ((with_reducible apply Tri.condF); rfl; rfl; (with_reducible refine Tri.skip (Tri.blockN (Tri.thenN (Tri.region ?_)))); (with_reducible apply Tri.op); rfl; (with_reducible apply o_move); rfl; rfl; (with_reducible apply Tri.op); rfl; (with_reducible apply o_add64); rfl; rfl; rfl; (omega); (with_reducible apply Tri.op); rfl; (with_reducible apply o_assign); rfl; rfl; (with_reducible refine Tri.nil (Tri.thenN ?_)))
        ((with_reducible apply Tri.again (y := ⟨i + 1, by omega⟩)); (case p => ((try dsimp only); (repeat first | exact Pulls.nil | (apply Pulls.cons; repeat first | with_reducible exact Pull.head | apply Pull.tail)))); (case hm => ((try dsimp only); omega)); (try dsimp only))
        (repeat (first | exact trivial | refine And.intro (by rfl) ?_))
      · ((with_reducible refine Tri.exit (Tri.thenE (Tri.thenE (Tri.blockE (Tri.thenN (Tri.seq ?_)))))))
        ((with_reducible apply Tri.quiet); (case hB => kernel_rfl))
        ((first | ((with_reducible apply TriQ.op); rfl) | ((with_reducible apply TriQ.opYes); rfl; rfl; with_reducible rfl)); rfl; rfl; (intro K hK; (with_reducible apply o_move); rfl; rfl; exact hK); (first | ((with_reducible apply TriQ.op); rfl) | ((with_reducible apply TriQ.opYes); rfl; rfl; with_reducible rfl)); rfl; rfl; (intro K hK; (with_reducible apply o_neq); rfl; rfl; rfl; exact hK); (first | ((with_reducible apply TriQ.op); rfl) | ((with_reducible apply TriQ.opYes); rfl; rfl; with_reducible rfl)); rfl; rfl; (intro K hK; (with_reducible apply o_move); rfl; rfl; exact hK))
        ((with_reducible apply TriQ.setb 118 (false)); (case h => rfl); (case hi => rfl))
        skip
        ((first | ((with_reducible apply TriQ.op); (case hg => rfl)) | ((with_reducible apply TriQ.opYes); (case hg => rfl); (case hy => rfl); (case hb => with_reducible rfl))); (case hd => rfl); (case hn => rfl); (case h => (intro K hK; ((with_reducible apply o_loadAll (cs := pgL (mvP p a) (.slice A4 (mvP p a).b.length c4))); (case hx => rfl); (case p => exact (by (repeat first | with_reducible exact Pull.head | apply Pull.tail))); (case hl => rfl); (case hn => rfl)); exact hK)))
        ((first | ((with_reducible apply TriQ.op); (case hg => rfl)) | ((with_reducible apply TriQ.opYes); (case hg => rfl); (case hy => rfl); (case hb => with_reducible rfl))); (case hd => rfl); (case hn => rfl); (case h => (intro K hK; (with_reducible apply o_callV (hs := law03_from (mvP p a) A4 (mvP p a).b.length c4)); (case hargs => (repeat first | exact evs.nil | (apply evs.cons; case a => rfl))); (case hpre => exact fun _ _ => trivial); (case hn => rfl); exact hK)))
        ((first | ((with_reducible apply TriQ.op); (case hg => rfl)) | ((with_reducible apply TriQ.opYes); (case hg => rfl); (case hy => rfl); (case hb => with_reducible rfl))); (case hd => rfl); (case hn => rfl); (case h => (intro K hK; ((with_reducible apply o_loadAll (cs := pgL (mvP p a) (.slice A p.b.length c))); (case hx => rfl); (case p => exact (by (repeat first | with_reducible exact Pull.head | apply Pull.tail))); (case hl => rfl); (case hn => rfl)); exact hK)))
        ((first | ((with_reducible apply TriQ.op); (case hg => rfl)) | ((with_reducible apply TriQ.opYes); (case hg => rfl); (case hy => rfl); (case hb => with_reducible rfl))); (case hd => rfl); (case hn => rfl); (case h => (intro K hK; (with_reducible apply o_callV (hs := ref03_Same (mvP p a) (mvP p a) (.slice A4 (mvP p a).b.length c4) (.slice A p.b.length c))); (case hargs => (repeat first | exact evs.nil | (apply evs.cons; case a => rfl))); (case hpre => exact fun w' hw' => ⟨rdw_own (by (repeat first | with_reducible exact Pull.head | apply Pull.tail)) w' hw', rdw_ex (by (repeat first | with_reducible exact Pull.head | apply Pull.tail)) hr w' hw'⟩); (case hn => rfl); exact hK)))
        ((first | ((with_reducible apply TriQ.op); rfl) | ((with_reducible apply TriQ.opYes); rfl; rfl; with_reducible rfl)); rfl; rfl; (intro K hK; (with_reducible apply o_pickF); (iterate 4 rfl); exact hK); (first | ((with_reducible apply TriQ.op); rfl) | ((with_reducible apply TriQ.opYes); rfl; rfl; with_reducible rfl)); rfl; rfl; (intro K hK; (with_reducible apply o_assign); rfl; rfl; exact hK); (with_reducible refine TriQ.nil ?_))
        ((with_reducible apply Tri.setb 4 (true)); (case h => rfl); (case hi => simp))
        ((with_reducible refine Tri.thenN (Tri.ret ?_)))
        (first | with_reducible apply Tri.fin | with_reducible apply Tri.finN)
        case hr => rfl
        case h => exact ResL.cons (Res1.tmp rfl) ResL.nil
        exact fin_law (F := []) w (by (repeat first | exact Pulls.nil | (apply Pulls.cons; repeat first | with_reducible exact Pull.head | apply Pull.tail))) _ rfl
    · ((with_reducible apply Tri.setb 81 (true)); (case h => rfl); (case hi => rfl))
      ((with_reducible apply Tri.opYes); rfl; rfl; rfl; (with_reducible apply o_move); rfl; rfl; (with_reducible apply Tri.opYes); rfl; rfl; rfl; (with_reducible apply o_neq); rfl; rfl; rfl; (with_reducible apply Tri.opYes); rfl; rfl; rfl; (with_reducible apply o_pickT); (iterate 4 rfl); (with_reducible apply Tri.op); rfl; (with_reducible apply o_pickF); (iterate 4 rfl); (with_reducible refine Tri.nil (Tri.thenN ?_)))
      ((with_reducible apply Tri.setb 85 (false)); (case h => rfl); (case hi => rfl))
      ((with_reducible apply Tri.condF); rfl; rfl; (with_reducible refine Tri.skip (Tri.thenN (Tri.seq (Tri.region ?_)))); (with_reducible apply Tri.op); rfl)
      ((with_reducible apply o_litSl (ys := kindsL)); (case hp => (repeat first | exact pev.nil | (apply pev.cons; case a => rfl))); (case hm => rfl); (case hf => rfl); (case hn => rfl); intro vl)
      ((with_reducible apply Tri.op); rfl; (with_reducible apply o_assign); rfl; rfl; (with_reducible refine Tri.nil (Tri.thenN (Tri.seq (Tri.seq (Tri.region ?_))))); (with_reducible apply Tri.op); rfl; (with_reducible apply o_assign); rfl; rfl; (with_reducible refine Tri.nil (Tri.thenN (Tri.block ?_))))
      ((first | with_reducible apply Tri.loop (α := { i : Nat // i ≤ 4 }) (m := fun x => 4 - x.1) (Lx := fun y => [(2, .pointer (some ⟨b2, 0, none⟩)), (5, .pointer (some ⟨b5, 0, none⟩)), (6, .pointer (some ⟨d, 0, none⟩)), (10, .int .i64 (k : Int)), (12, .pointer (some ⟨b12, 0, none⟩)), (13, .int .i64 (3 : Int)), (14, vl), (15, .int .i64 (y.1 : Int))]) (Hx := fun y => [own 5 1 vl 4 kindsL, blk b12 102 (pgL zeroP (.slice A4 zeroP.b.length c4)), own 5 1 (.slice A4 zeroP.b.length c4) zeroP.b.length (B8 zeroP.b), DSK d S1, blk b5 98 tabL, blk b2 96 (pgL (mvP p a) (.slice A p.b.length c)), Ex (hp w)]) (x0 := ⟨0, Nat.zero_le _⟩) | with_reducible apply TriR.loop (α := { i : Nat // i ≤ 4 }) (m := fun x => 4 - x.1) (Lx := fun y => [(2, .pointer (some ⟨b2, 0, none⟩)), (5, .pointer (some ⟨b5, 0, none⟩)), (6, .pointer (some ⟨d, 0, none⟩)), (10, .int .i64 (k : Int)), (12, .pointer (some ⟨b12, 0, none⟩)), (13, .int .i64 (3 : Int)), (14, vl), (15, .int .i64 (y.1 : Int))]) (Hx := fun y => [own 5 1 vl 4 kindsL, blk b12 102 (pgL zeroP (.slice A4 zeroP.b.length c4)), own 5 1 (.slice A4 zeroP.b.length c4) zeroP.b.length (B8 zeroP.b), DSK d S1, blk b5 98 tabL, blk b2 96 (pgL (mvP p a) (.slice A p.b.length c)), Ex (hp w)]) (x0 := ⟨0, Nat.zero_le _⟩)); (case hL => ((try dsimp only); (repeat (first | exact trivial | refine And.intro (by rfl) ?_)))); (case hH => ((try dsimp only); apply St.all; (repeat first | exact Pulls.nil | (apply Pulls.cons; repeat first | with_reducible exact Pull.head | apply Pull.tail))))); (rintro ⟨i, hi⟩ mx hmx; (try dsimp only at hmx ⊢))
      ((with_reducible refine Tri.seq (Tri.seq (Tri.region ?_))); (with_reducible apply Tri.op); rfl; (with_reducible apply o_move); rfl; rfl; (with_reducible apply Tri.op); rfl; (with_reducible apply o_lss); rfl; rfl; rfl; (with_reducible refine Tri.nil (Tri.thenN ?_)))
      ((first | with_reducible apply Tri.condD | with_reducible apply TriR.condD); (case hc => rfl); (all_goals intro h))
      · obtain ⟨o, ho⟩ := kindsL_get (show i < 4 by omega)
        ((with_reducible refine Tri.skip (Tri.thenN (Tri.seq (Tri.block (Tri.seq (Tri.region ?_)))))); (with_reducible apply Tri.op); rfl; (with_reducible apply o_move); rfl; rfl; (with_reducible apply Tri.op); rfl; (with_reducible apply o_move); rfl; rfl; (with_reducible apply Tri.op); rfl)
        ((with_reducible apply o_ixOwn (j := i)); (case hx => rfl); (case hy => rfl); (case p => (repeat first | with_reducible exact Pull.head | apply Pull.tail)); (case hj => rfl); (case hlt => omega); (case hn => rfl))
        ((with_reducible apply Tri.op); rfl)
        ((with_reducible apply o_loadOwn); (case hx => rfl); (case p => (repeat first | with_reducible exact Pull.head | apply Pull.tail)); (case hv => exact ho); (case hn => rfl))
        ((with_reducible apply Tri.op); rfl; (with_reducible apply o_assign); rfl; rfl; (with_reducible refine Tri.nil (Tri.thenN (Tri.seq (Tri.region ?_)))); (with_reducible apply Tri.op); rfl)
        ((with_reducible apply o_loadAll); (case hx => rfl); (case p => (repeat first | with_reducible exact Pull.head | apply Pull.tail)); (case hl => exact tabL_length); (case hn => rfl))
        ((with_reducible apply Tri.op); rfl; (with_reducible apply o_move); rfl; rfl; (with_reducible apply Tri.op); rfl; (with_reducible apply o_move); rfl; rfl; (with_reducible apply Tri.op); rfl; (with_reducible apply o_move); rfl; rfl; (with_reducible apply Tri.op); rfl)
        ((with_reducible apply o_callS (hs := page_Read d S1 (k : Int) o hok1 (by omega) (by omega))); (case hargs => (repeat first | exact evs.nil | (apply evs.cons; case a => rfl))); (case p => (repeat first | exact Pulls.nil | (apply Pulls.cons; repeat first | with_reducible exact Pull.head | apply Pull.tail))); (case hn => rfl))
        rintro r6 H6 ⟨A6, c6, rfl, rfl⟩
        have hro := hrd o
        obtain ⟨R6, hR6⟩ : ∃ R, R = rdPg S1 (k : Int) o := ⟨_, rfl⟩
        rw [← hR6] at hro ⊢
        obtain ⟨r6, e6⟩ := R6
        dsimp only at hro ⊢
        (try dsimp only [List.cons_append, List.nil_append])
        ((with_reducible apply Tri.op); rfl; (with_reducible apply o_move); rfl; rfl; (with_reducible apply Tri.op); rfl; (with_reducible apply o_extract); rfl; rfl; rfl; (with_reducible apply Tri.op); rfl; (with_reducible apply o_extract); rfl; rfl; rfl; (with_reducible apply Tri.op); rfl)
        ((with_reducible apply o_alloc); (case hn => rfl); intro b17)
        ((with_reducible apply Tri.op); rfl)
        ((with_reducible apply o_storeAll (ys := pgL r6 (.slice A6 r6.b.length c6))); (case hx => rfl); (case hy => rfl); (case p => (repeat first | with_reducible exact Pull.head | apply Pull.tail)); (case hl => rfl); (case hc => rfl); (case h1 => exact pgL_one r6 A6 _ c6))
        ((with_reducible apply Tri.op); rfl; (with_reducible apply o_assign); rfl; rfl; (with_reducible refine Tri.nil (Tri.thenN (Tri.seq (Tri.region ?_)))); (with_reducible apply Tri.op); rfl; (with_reducible apply o_move); rfl; rfl; (with_reducible apply Tri.op); rfl; (with_reducible apply o_eql); rfl; rfl; rfl; (with_reducible apply Tri.op); rfl; (with_reducible apply o_move); rfl; rfl; (with_reducible apply Tri.op); rfl; (with_reducible apply o_fieldAddr); rfl; rfl; (with_reducible apply Tri.op); rfl; (with_reducible apply o_load); rfl; (repeat first | with_reducible exact Pull.head | apply Pull.tail); rfl; rfl; (with_reducible apply Tri.op); rfl; (with_reducible apply o_eql); rfl; rfl; rfl; (with_reducible apply Tri.op); rfl; (with_reducible apply o_move); rfl; rfl)
        ((with_reducible apply Tri.setb 109 (false)); (case h => rfl); (case hi => (rw [decide_eq_false]; show ¬ (k : Int) = (a : Int); omega)))
        ((iterate 4 (with_reducible apply Tri.opNo (c := false)); (iterate 6 rfl)); (with_reducible apply Tri.op); rfl; (with_reducible apply o_pickF); (iterate 4 rfl); (with_reducible apply Tri.op); rfl; (with_reducible apply o_neqB); rfl; rfl; rfl; (with_reducible refine Tri.nil (Tri.thenN ?_)))
        ((with_reducible apply Tri.setb 115 (false)); (case h => rfl); (case hi => (rw [e6_of hro]; (rw [decide_eq_false hak]; rfl))))
        ((with_reducible apply Tri.condF); rfl; rfl; (with_reducible refine Tri.skip (Tri.blockN (Tri.thenN (Tri.region ?_)))); (with_reducible apply Tri.op); rfl; (with_reducible apply o_move); rfl; rfl; (with_reducible apply Tri.op); rfl; (with_reducible apply o_add64); rfl; rfl; rfl; (omega); (with_reducible apply Tri.op); rfl; (with_reducible apply o_assign); rfl; rfl; (with_reducible refine Tri.nil (Tri.thenN ?_)))
        ((with_reducible apply Tri.again (y := ⟨i + 1, by omega⟩)); (case p => ((try dsimp only); (repeat first | exact Pulls.nil | (apply Pulls.cons; repeat first | with_reducible exact Pull.head | apply Pull.tail)))); (case hm => ((try dsimp only); omega)); (try dsimp only))
        (repeat (first | exact trivial | refine And.intro (by rfl) ?_))
      · ((with_reducible refine Tri.exit (Tri.thenE (Tri.thenE (Tri.blockE (Tri.thenN (Tri.seq ?_)))))))
        ((with_reducible apply Tri.quiet); (case hB => kernel_rfl))
        ((first | ((with_reducible apply TriQ.op); rfl) | ((with_reducible apply TriQ.opYes); rfl; rfl; with_reducible rfl)); rfl; rfl; (intro K hK; (with_reducible apply o_move); rfl; rfl; exact hK); (first | ((with_reducible apply TriQ.op); rfl) | ((with_reducible apply TriQ.opYes); rfl; rfl; with_reducible rfl)); rfl; rfl; (intro K hK; (with_reducible apply o_neq); rfl; rfl; rfl; exact hK); (first | ((with_reducible apply TriQ.op); rfl) | ((with_reducible apply TriQ.opYes); rfl; rfl; with_reducible rfl)); rfl; rfl; (intro K hK; (with_reducible apply o_move); rfl; rfl; exact hK))
        ((with_reducible apply TriQ.setb 118 (true)); (case h => rfl); (case hi => rfl))
        ((iterate 4 (with_reducible apply TriQ.opNo (c := true)); (iterate 6 rfl)); (first | ((with_reducible apply TriQ.op); rfl) | ((with_reducible apply TriQ.opYes); rfl; rfl; with_reducible rfl)); rfl; rfl; (intro K hK; (with_reducible apply o_pickT); (iterate 4 rfl); exact hK); (first | ((with_reducible apply TriQ.op); rfl) | ((with_reducible apply TriQ.opYes); rfl; rfl; with_reducible rfl)); rfl; rfl; (intro K hK; (with_reducible apply o_assign); rfl; rfl; exact hK); (with_reducible refine TriQ.nil ?_))
        ((with_reducible apply Tri.setb 4 (true)); (case h => rfl); (case hi => rfl))
        ((with_reducible refine Tri.thenN (Tri.ret ?_)))
        (first | with_reducible apply Tri.fin | with_reducible apply Tri.finN)
        case hr => rfl
        case h => exact ResL.cons (Res1.tmp rfl) ResL.nil
        exact fin_law (F := []) w (by (repeat first | exact Pulls.nil | (apply Pulls.cons; repeat first | with_reducible exact Pull.head | apply Pull.tail))) _ rfl
  · have hno : okP (mvP p a) = false := by simpa using hok
    ((with_reducible apply o_callV (hs := ref03_Put_no (mvP p a) (.slice A p.b.length c) hno)); (case hargs => (repeat first | exact evs.nil | (apply evs.cons; case a => rfl))); (case hpre => exact rdw_ex (by (repeat first | with_reducible exact Pull.head | apply Pull.tail)) hr); (case hn => rfl))
    ((with_reducible apply Tri.op); rfl; (with_reducible apply o_move); rfl; rfl; (with_reducible apply Tri.op); rfl; (with_reducible apply o_extract); rfl; rfl; rfl; (with_reducible apply Tri.op); rfl; (with_reducible apply o_extract); rfl; rfl; rfl; (with_reducible apply Tri.op); rfl; (with_reducible apply o_assign); rfl; rfl; (with_reducible apply Tri.op); rfl; (with_reducible apply o_assign); rfl; rfl; (with_reducible refine Tri.nil (Tri.thenN (Tri.seq (Tri.seq (Tri.region ?_))))); (with_reducible apply Tri.op); rfl)
    ((with_reducible apply o_callV (hs := law03_puts)); (case hargs => (repeat first | exact evs.nil | (apply evs.cons; case a => rfl))); (case hpre => exact fun _ _ => trivial); (case hn => rfl))
    ((with_reducible apply Tri.op); rfl; (with_reducible apply o_not); rfl; rfl; (with_reducible apply Tri.op); rfl; (with_reducible apply o_move); rfl; rfl)
    ((with_reducible apply Tri.setb 37 (false)); (case h => rfl); (case hi => rfl))
    ((with_reducible apply Tri.opYes); rfl; rfl; rfl; (with_reducible apply o_move); rfl; rfl; (with_reducible apply Tri.opYes); rfl; rfl; rfl; (with_reducible apply o_neq); rfl; rfl; rfl; (with_reducible apply Tri.op); rfl; (with_reducible apply o_pickF); (iterate 4 rfl); (with_reducible apply Tri.op); rfl; (with_reducible apply o_move); rfl; rfl)
    ((with_reducible apply Tri.setb 41 (false)); (case h => rfl); (case hi => rfl))
    ((with_reducible apply Tri.opYes); rfl; rfl; rfl; (with_reducible apply o_move); rfl; rfl; (with_reducible apply Tri.opYes); rfl; rfl; rfl; (with_reducible apply o_not); rfl; rfl; (with_reducible apply Tri.op); rfl; (with_reducible apply o_pickF); (iterate 4 rfl); (with_reducible refine Tri.nil (Tri.thenN ?_)))
    ((with_reducible apply Tri.setb 44 (true)); (case h => rfl); (case hi => rfl))
    ((with_reducible apply Tri.condT); rfl; rfl; (with_reducible refine Tri.seq (Tri.region ?_)); (with_reducible apply Tri.op); rfl)
    ((with_reducible apply o_callV (hs := law03_puts)); (case hargs => (repeat first | exact evs.nil | (apply evs.cons; case a => rfl))); (case hpre => exact fun _ _ => trivial); (case hn => rfl))
    ((with_reducible apply Tri.op); rfl; (with_reducible apply o_move); rfl; rfl; (with_reducible apply Tri.opYes); rfl; rfl; rfl; (with_reducible apply o_move); rfl; rfl; (with_reducible apply Tri.opYes); rfl; rfl; rfl; (with_reducible apply o_eql); rfl; rfl; rfl; (with_reducible apply Tri.op); rfl; (with_reducible apply o_pickT); (iterate 4 rfl); (with_reducible apply Tri.op); rfl; (with_reducible apply o_assign); rfl; rfl; (with_reducible refine Tri.nil (Tri.thenN (Tri.ret (Tri.thenR ?_)))))
    ((with_reducible apply Tri.setb 4 (true)); (case h => rfl); (case hi => rfl))
    (first | with_reducible apply Tri.fin | with_reducible apply Tri.finN)
    case hr => rfl
    case h => exact ResL.cons (Res1.tmp rfl) ResL.nil
    exact fin_law (F := []) w (by (repeat first | exact Pulls.nil | (apply Pulls.cons; repeat first | with_reducible exact Pull.head | apply Pull.tail))) _ rfl
end Go.Proofs.Ytmomlimhjnfadaa
