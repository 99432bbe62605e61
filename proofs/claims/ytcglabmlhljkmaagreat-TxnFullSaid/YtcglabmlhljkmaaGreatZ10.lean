/- Texts of this claim, put together: GvLaw, TxFullWalk. -/
import Derived.Test.YtcglabmlhljkmaaGreatZ03
import Derived.Test.YtcglabmlhljkmaaGreatZ02
import Derived.Test.YtcglabmlhljkmaaGreatZ08
import Derived.Test.YtcglabmlhljkmaaGreatZ09
section
/- From a law's walk to its row: what the row's frame asks. -/
namespace Go.Gv
open Go Go.RowKit
set_option linter.unusedVariables false

theorem below_of_st {w w' : World} {H : List Atom} (h : St w w' (H ++ [Ex (hp w)])) : Below w.heap.size w w' :=
  ⟨h.1.os, h.1.tape, h.1.output, h.1.size, (Sat.exhp (av := fun _ => True) h.2).1⟩

/-- what a law's walk shows -/
def LawR (w : World) : Value → World → Prop := fun v w' => ∃ H', (fun v (_ : List Atom) => v = .bool true) v H' ∧ St w w' (H' ++ [Ex (hp w)])

theorem law_calls {P : Program} {f : FuncId} {args : Array Value} {w : World} (h : Calls P f args w (Ret (LawR w))) : Calls P f args w fun e w' => e = .returned (.bool true) ∧ Below w.heap.size w w' :=
  h.mono fun e w' he => by
    cases e with
    | returned v => obtain ⟨H', rfl, hs⟩ := he; exact ⟨rfl, below_of_st hs⟩
    | panicked c => exact he.elim
    | outgrown => exact he.elim

theorem fin_law {H R F : List Atom} (w : World) (p : Pulls H (F ++ [Ex (hp w)]) R) (v : Value) (hv : v = .bool true) : ∀ w', St w w' H → LawR w v w' := fun w' hw => ⟨F, hv, (hw.pulls p).1, Sat.left (hw.pulls p).2⟩

end Go.Gv
end
section
/- txn: TxnFull: the walk. -/
namespace Go.Proofs.YtcglabmlhljkmaaGreat
open Go Go.RowKit Go.Gv
set_option linter.unusedVariables false
set_option linter.unusedSimpArgs false

set_option maxRecDepth 4000 in
set_option maxHeartbeats 32000000 in
theorem txnFull_walk (w : World) (x y : Int) : Calls Tryz.prog 6 #[.int .i64 x, .int .i64 y] w (Ret (LawR w)) := by
  refine Calls.enter Tryz.func6 rfl rfl rfl (St.rebase w) ?_
  simp only [argSlots]
  obtain ⟨k, hk⟩ : ∃ k : Nat, (k : Int) = 12 + x % 18446744073709551616 % 40 := ⟨(12 + x % 18446744073709551616 % 40).toNat, by omega⟩
  obtain ⟨r, hr⟩ : ∃ r : Nat, (r : Int) = y % 18446744073709551616 % 900 := ⟨(y % 18446744073709551616 % 900).toNat, by omega⟩
  have hkk : 12 ≤ k ∧ k ≤ 51 := by omega
  have hr9 : r < 900 := by omega
  have h8 : 8 ≤ k ∧ k ≤ 512 := by omega
  have hfr := fm_free h8
  have hfo := fun d => txn_Format d k h8
  have c0 := fm_cmt mu4 h8
  have hs0 : spF k = ⟨1, 0, 0, 2, (k : Int)⟩ := rfl
  obtain ⟨S, hS⟩ : ∃ S, S = fmS k := ⟨_, rfl⟩
  obtain ⟨m, hm⟩ : ∃ m, m = fm1 k := ⟨_, rfl⟩
  obtain ⟨s, hs⟩ : ∃ s, s = spF k := ⟨_, rfl⟩
  rw [← hS, ← hm, ← hs] at c0
  rw [← hm] at hfr
  simp only [← hS, ← hm, ← hs] at hfo
  rw [← hs] at hs0
  have hsg : s.gen = 1 := by rw [hs0]
  have hsa : s.addr = 0 := by rw [hs0]
  have hsh : s.height = 0 := by rw [hs0]
  have hml := c0.cm.mok.len
  have hWS : S.W.length = 0 := by rw [c0.cm.W]; rfl
  obtain ⟨n1, hn1⟩ : ∃ n1, n1 = 256 * (k - 3) + 1 + r := ⟨_, rfl⟩
  obtain ⟨n2, hn2⟩ : ∃ n2, n2 = 256 * (k - 5) := ⟨_, rfl⟩
  have hvok := (c0.cm.view (s.gen + 1) (by rw [hsg]; decide)).ok
  have hpn1 : pagesE ((tZ n1).length : Int) = (((n1 + 255) / 256 : Nat) : Int) := by rw [tZ_len, pagesE]; omega
  have hT1 : (takeM m m (pagesE ((tZ n1).length : Int))).2.2 = 5 := by rw [hpn1]; exact full_take c0 (by omega) (by omega)
  obtain ⟨t, m2, v2, a2, h2, t3, m3, m4, P, C, D, hf1, hh2⟩ := full_spec c0 hkk.1 (by omega) (by rw [hsg]; decide) hn2
  have X0 := c0.begin
  have hgen1 : (1 : Nat) = s.gen := hsg.symm
  refine Ws ?_
  refine Zi 25 (k : Int) ?_ (hi := by first | omega | (rw [hk]; omega))
  refine Zcr (disk_NewD k h8) ?_
  rintro r1 H1 ⟨d, rfl, rfl⟩
  refine Wap ?_
  refine Ws ?_
  refine Zcs (hfo d) ?_
  rintro r2 H2 ⟨pb, pv, rfl, rfl⟩
  refine Wap ?_
  refine Ws ?_
  refine Zcv law16_stays ?_
  refine Ws ?_
  refine Zz 36 false ?_
  refine Ws ?_
  refine Zz 40 false ?_
  refine Ws ?_
  refine Zz 43 false ?_
  refine Ws ?_
  refine Zd (base_Free pb d pv s m false false hml) ?_
  rw [hfr]
  refine Ws ?_
  have hbe := base_Begin pb d pv S s m hvok (c0.cm.mok.right h8) (by rw [c0.cm.div]; exact c0.cm.mok.p)
  refine Zcs hbe ?_
  rintro r4 H4 ⟨pt, tv, rfl, rfl⟩
  refine Wap ?_
  refine Ws ?_
  refine Zbu (ys := [.int .i64 1, .int .i64 0]) ?_
  refine Ws ?_
  refine Zbu (ys := entL xS) ?_
  refine Ws ?_
  refine Zi 61 (n1 : Int) ?_ (hi := by first | omega | (rw [hn1]; omega))
  refine Zomake1 (m := n1) ?_ (hi := by rfl) (hj := by rfl)
  intro bz
  refine Tri.open (A := blk bz 5 (List.replicate n1 (.int .u8 0))) Wp (fun hz hbz => ?_)
  have hrz : Rd hz (.slice (some ⟨bz, 0, none⟩) n1 n1) n1 (B8 (tZ n1)) := by
    rw [tZ_B8]
    exact blk_Rd hbz ⟨Nat.le_refl _, by omega⟩ (by rw [List.take_of_length_le (Nat.le_refl _)])
  have hrz2 : Rd hz (.slice (some ⟨bz, 0, none⟩) n1 n1) (tZ n1).length (B8 (tZ n1)) := by rw [tZ_len]; exact hrz
  have hput := txn_Put_full pt pb tv d pv ⟨S, s.gen + 1, m, m⟩ s.addr 0 s m true xS (.slice (some ⟨bz, 0, none⟩) n1 n1) (tZ n1) hz hrz2 hvok (by show S.W.length + _ ≤ _; rw [hWS, tZ_len]; omega) hml (by decide) (.inl rfl) (by show 0 ≤ _; decide) (xS_ok (by omega)) rfl hT1
  refine Zat (blk pt _ _) (blk pt 163 (txL pb tv s.addr ((0 : Nat) : Int) false)) ?_ (e := by rw [hsh]; rfl)
  refine Ws ?_
  refine Zd hput ?_
  refine Ws ?_
  refine Zbu (ys := [.int .i64 1, .int .i64 0]) ?_
  refine Ws ?_
  refine Zbu (ys := entL xS) ?_
  refine Ws ?_
  (refine Zli (ys := [.int .u8 97]) ?_; intro vl)
  refine Ws ?_
  refine ZoconvSS ?_ (he := by exact Tryz.underlying5) (hm := by decide)
  refine Ws ?_
  refine Zd (txn_Put_over pt pb tv d pv s.addr ((0 : Nat) : Int) s m false xS vl hml) ?_
  refine Ws ?_
  refine Zat (blk pv _ _) (blk pv 146 (viewL d ⟨S, s.gen, m, m⟩)) ?_ (e := by rw [← hgen1])
  refine Zcs (law16_allX c0 pb d pv s.gen (by rw [hsg]; decide) false) ?_
  rintro r7 H7 ⟨A7, c7, rfl, rfl⟩
  refine Wap ?_
  refine Ws ?_
  refine Zz 77 false ?_
  refine Ws ?_
  refine Zz 81 false ?_
  refine Ws ?_
  refine Zz 85 false ?_
  refine Ws ?_
  refine Zz 89 false ?_
  refine Ws ?_
  refine Zz 94 false ?_
  refine Ws ?_
  refine Zd (base_Free pb d pv s m false false hml) ?_
  rw [hfr]
  refine Ws ?_
  refine Zz 99 false ?_ (hi := by exact decide_eq_false (fun q => q rfl))
  refine Ws ?_
  refine Zcs hbe ?_
  rintro r9 H9 ⟨pt2, tv2, rfl, rfl⟩
  refine Wap ?_
  refine Ws ?_
  refine Zz 107 true ?_
  refine Ws ?_
  refine Zbu (ys := [.int .i64 1, .int .i64 0]) ?_
  refine Ws ?_
  refine Zbu (ys := entL xS) ?_
  refine Ws ?_
  refine Zi 113 (n2 : Int) ?_ (hi := by first | omega | (rw [hn2]; omega))
  refine Zomake1 (m := n2) ?_ (hi := by rfl) (hj := by rfl)
  intro by_
  refine Tri.open (A := blk by_ 5 (List.replicate n2 (.int .u8 0))) Wp (fun hz2 hbz2 => ?_)
  have hry : Rd hz2 (.slice (some ⟨by_, 0, none⟩) n2 n2) n2 (B8 (tZ n2)) := by
    rw [tZ_B8]
    exact blk_Rd hbz2 ⟨Nat.le_refl _, by omega⟩ (by rw [List.take_of_length_le (Nat.le_refl _)])
  have hry2 : Rd hz2 (.slice (some ⟨by_, 0, none⟩) n2 n2) (tZ n2).length (B8 (tZ n2)) := by rw [tZ_len]; exact hry
  have hput2 := txn_PutX mu4_lim X0 P (xS_ok (by omega)) ⟨⟨by decide, by decide⟩, ⟨by decide, by decide⟩⟩ (by decide) (fun y hy => by cases hy) (by show S.W.length ≤ 500000; rw [hWS]; decide) pt2 pb tv2 d pv true (.slice (some ⟨by_, 0, none⟩) n2 n2) hz2 hry2
  refine Zat (blk pt2 _ _) (blk pt2 163 (txL pb tv2 s.addr ((0 : Nat) : Int) false)) ?_ (e := by rw [hsh]; rfl)
  refine Ws ?_
  refine Zd hput2 ?_
  refine Ws ?_
  refine Zz 118 true ?_
  refine Ws ?_
  refine Zcs (txn_Commit pt2 pb tv2 d pv v2 a2 h2 s m m3 m4 true t3 C) ?_
  rintro r11 H11 ⟨pv2, rfl, rfl⟩
  refine Wap ?_
  refine Ws ?_
  refine Zz 123 true ?_
  refine Ws ?_
  refine Zd (base_Free pb d pv2 (spN s a2 h2 t3) m4 false false D.cm.mok.len) ?_
  rw [hf1]
  refine Ws ?_
  refine Zz 128 true ?_
  refine Ws ?_
  refine Zd (law16_sound D (fun hne => by
    have h21 : h2 = 1 := by omega
    rw [h21, pg_one]; decide) pb d pv2 false) ?_
  refine Ws ?_
  (first | with_reducible apply Tri.fin | with_reducible apply Tri.finN)
  case hr => rfl
  case h => exact ResL.cons (Res1.tmp rfl) ResL.nil
  exact fin_law (F := []) w Wps _ rfl
end Go.Proofs.YtcglabmlhljkmaaGreat
end
