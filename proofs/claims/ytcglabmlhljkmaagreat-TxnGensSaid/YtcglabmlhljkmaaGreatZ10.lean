/- Texts of this claim, put together: TxGensWalk. -/
import Derived.Test.YtcglabmlhljkmaaGreatZ02
import Derived.Test.YtcglabmlhljkmaaGreatZ09
/- txn: TxnGens: the walk. -/
namespace Go.Proofs.YtcglabmlhljkmaaGreat
open Go Go.RowKit Go.Gv
set_option linter.unusedVariables false
set_option linter.unusedSimpArgs false

theorem sp_alkT (s : SP) : Alk [.int .u64 0, .int .i64 0, .int .i64 0, .int .i64 0, .int .i64 0] (spL s) := ⟨rfl, rfl, rfl, rfl, rfl, trivial⟩
/-- a store without chunks, of the generation i + 1 -/
structure GNS (k : Nat) where
  i : Nat
  S : DS
  s : SP
  m : BM
  b : Nat
  pv : Nat
  c : CMT 16 mu4 S s m b 0 []
  g : s.gen = i + 1
  hi : i ≤ k
set_option maxRecDepth 4000 in
set_option maxHeartbeats 16000000 in
theorem txnGens_walk (w : World) (x : Int) : Calls Tryz.prog 5 #[.int .i64 x] w (Ret (LawR w)) := by
  refine Calls.enter Tryz.func5 rfl rfl rfl (St.rebase w) ?_
  simp only [argSlots]
  obtain ⟨k, hk⟩ : ∃ k : Nat, (k : Int) = x % 18446744073709551616 % 30 := ⟨(x % 18446744073709551616 % 30).toNat, by omega⟩
  have hk30 : k ≤ 30 := by omega
  have h8 : 8 ≤ 16 ∧ 16 ≤ 512 := by decide
  have hfo := fun d => txn_Format d 16 h8
  have c0 := fm_cmt mu4 h8
  have hs0 : spF 16 = ⟨1, 0, 0, 2, 16⟩ := rfl
  obtain ⟨S, hS⟩ : ∃ S, S = fmS 16 := ⟨_, rfl⟩
  obtain ⟨m, hm⟩ : ∃ m, m = fm1 16 := ⟨_, rfl⟩
  obtain ⟨s, hs⟩ : ∃ s, s = spF 16 := ⟨_, rfl⟩
  rw [← hS, ← hm, ← hs] at c0
  simp only [← hS, ← hm, ← hs] at hfo
  rw [← hs] at hs0
  have hsg : s.gen = 0 + 1 := by rw [hs0]
  refine Ws ?_
  refine Zcr (disk_NewD 16 h8) ?_
  rintro r1 H1 ⟨d, rfl, rfl⟩
  refine Wap ?_
  refine Ws ?_
  refine Zcs (hfo d) ?_
  rintro r2 H2 ⟨pb, pv, rfl, rfl⟩
  refine Wap ?_
  refine Ws ?_
  refine Zcv law16_stays ?_
  refine Ws ?_
  refine Zz 26 false ?_
  refine Ws ?_
  refine Zz 30 false ?_
  refine Ws ?_
  refine Zz 33 false ?_
  refine Ws ?_
  refine Zi 7 (k : Int) ?_ (hi := by first | omega | (rw [hk]; omega))
  (refine Wl (α := GNS k) (fun z => k - z.i) (fun z => [(3, .pointer (some ⟨d, 0, none⟩)), (5, .pointer (some ⟨pb, 0, none⟩)), (7, .int .i64 (k : Int)), (8, .int .i64 (z.i : Int))]) (fun z => [blk pb 161 (baseL d z.pv z.s z.m false false), DSK d z.S, Ex (hp w)]) ⟨0, S, s, m, 2, pv, c0, hsg, Nat.zero_le _⟩ ?_; rintro ⟨i, S, s, m, b, pv, c, hg, hi⟩ mx hmx; (try dsimp only at hmx ⊢))
  refine Ws ?_
  (refine Wcd ?_ ?_ <;> intro hc)
  · have hik : i < k := by omega
    have hik1 : i + 1 ≤ k := hik
    obtain ⟨t, m1, m2, C, D⟩ := empty_commit c (by decide) (by omega)
    have hbe := base_Begin pb d pv S s m (c.cm.view (s.gen + 1) (by omega)).ok (c.cm.mok.right h8) (by rw [c.cm.div]; exact c.cm.mok.p)
    have hcm := fun pt tv => txn_Commit pt pb tv d pv ⟨S, s.gen + 1, m, m⟩ s.addr 0 s m m1 m2 true t C
    have hg2 : (spN s s.addr 0 t).gen = i + 1 + 1 := by show s.gen + 1 = _; rw [hg]
    have hsh : s.height = 0 := c.hh
    obtain ⟨s2, hs2⟩ : ∃ s2, s2 = spN s s.addr 0 t := ⟨_, rfl⟩
    rw [← hs2] at D hg2
    dsimp only at hcm
    simp only [← hs2] at hcm
    obtain ⟨S2, hS2⟩ : ∃ S2, S2 = cmS S s2 m2 := ⟨_, rfl⟩
    rw [← hS2] at D
    simp only [← hS2] at hcm
    have hfr := empty_free D
    obtain ⟨im1, im2⟩ := D.cm.image i (by rw [hg2]; omega)
    have hSl : S2.A.length = 4096 := D.cm.len
    have hok2 : S2.ok := D.cm.on.1
    refine Ws ?_
    refine Zcs hbe ?_
    rintro r3 H3 ⟨pt, tv, rfl, rfl⟩
    refine Wap ?_
    refine Ws ?_
    refine Zz 50 false ?_
    refine Ws ?_
    refine Zat (blk pt _ _) (blk pt 163 (txL pb tv s.addr ((0 : Nat) : Int) false)) ?_ (e := by rw [hsh]; rfl)
    refine Zcs (hcm pt tv) ?_
    rintro r4 H4 ⟨pv2, rfl, rfl⟩
    refine Wap ?_
    refine Ws ?_
    refine Zz 55 false ?_
    refine Ws ?_
    refine Zd (txn_Commit_over pt pb tv d pv2 s.addr ((0 : Nat) : Int) s2 m2 false D.cm.mok.len) ?_
    refine Ws ?_
    refine Zz 60 false ?_
    refine Ws ?_
    refine Zd (base_Super pb d pv2 s2 m2 false false) ?_
    refine Ws ?_
    refine Zv 62 (.agg (spL s2).toArray) ?_ (hv := by rfl)
    refine Zofield (t := 22) (v := .int .u64 (s2.gen : Int)) ?_ (hu := by exact Tryz.underlying83)
    refine Ws ?_
    refine Zz 69 false ?_ (hi := by exact decide_eq_false (fun q => q (by rw [hg2]; omega)))
    refine Ws ?_
    refine Zd (base_Free pb d pv2 s2 m2 false false D.cm.mok.len) ?_
    refine Ws ?_
    refine Zz 73 false ?_ (hi := by exact decide_eq_false (fun q => q (by omega)))
    refine Ws ?_
    refine Zcs (disk_ImageD d S2 hok2) ?_
    rintro r8 H8 rfl
    refine Tri.shut (e := 5) (size := 1) (v := r8) Wp (fun hI ho => ?_)
    have hrI := own_Rd ho
    have hcut := Rd.subv hrI (size := 1) (lo := i % 2 * 256) (hi := i % 2 * 256 + 256) (by omega) (by omega)
    rw [show i % 2 * 256 + 256 - i % 2 * 256 = 256 by omega, B8_cut, im1] at hcut
    have hpl : (putP (pgS s2)).length = 256 := pgS_len s2
    have hcut2 : Rd hI (subv r8 1 (i % 2 * 256) (i % 2 * 256 + 256)) (putP (pgS s2)).length (B8 (putP (pgS s2))) := by rw [hpl]; exact hcut
    (try dsimp only [List.cons_append, List.nil_append, List.append_eq])
    refine Ws ?_
    refine Zi 79 ((i % 2 * 256 : Nat) : Int) ?_ (hi := by omega)
    refine Zi 83 ((i % 2 * 256 + 256 : Nat) : Int) ?_ (hi := by omega)
    refine Zsl (lo := i % 2 * 256) (hi := i % 2 * 256 + 256) ?_ (hr := by exact rdw_ex Wp hrI)
    refine Ws ?_
    refine Zcr (ref03_Get (subv r8 1 (i % 2 * 256) (i % 2 * 256 + 256)) (putP (pgS s2))) ?_ (hpre := by exact rdw_ex Wp hcut2)
    rw [im2]
    rintro r9 H9 ⟨A9, c9, rfl, rfl⟩
    refine Wap ?_
    refine Ws ?_
    refine Zal fun b11 => ?_
    refine Ws ?_
    refine ZSa (ys := pgL (pgS s2) (.slice A9 (pgS s2).b.length c9)) ?_ (h1 := by exact pgL_one (pgS s2) A9 _ c9)
    refine Ws ?_
    refine Zz 90 false ?_
    refine Ws ?_
    refine Zz 97 false ?_ (hi := by exact decide_eq_false (fun q => q (by show ((s2.gen : Nat) : Int) = _; rw [hg2]; omega)))
    refine Ws ?_
    refine Zi 8 ((i + 1 : Nat) : Int) ?_ (hi := by omega)
    exact Zag ⟨i + 1, S2, s2, m2, t, pv2, D, hg2, hik1⟩
  · have hik : i = k := by omega
    refine Ws ?_
    refine Zcs (txn_Mount d c.cm) ?_
    rintro r3 H3 ⟨pb2, pv3, rfl, rfl⟩
    refine Wap ?_
    refine Ws ?_
    refine Zz 105 true ?_
    refine Ws ?_
    refine Zd (base_Super pb2 d pv3 s m false false) ?_
    refine Ws ?_
    refine Zd (base_Super pb d pv s m false false) ?_
    refine Ws ?_
    refine ZoeqlA (r := true) ?_ (hax := by exact sp_alkT s) (hay := by exact sp_alkT s) (hr := by simp)
    refine Ws ?_
    (first | with_reducible apply Tri.fin | with_reducible apply Tri.finN)
    case hr => rfl
    case h => exact ResL.cons (Res1.tmp rfl) ResL.nil
    exact fin_law (F := []) w Wps _ rfl
end Go.Proofs.YtcglabmlhljkmaaGreat
