import Derived.Test.YtckdlfbbkemklaaZChWalk
import Derived.Test.YtckdlfbbkemklaaZDvWalk
/- page: raw bytes to a disk and back. -/
namespace Go.Proofs.Ytckdlfbbkemklaa
open Go Go.RowKit Go.Gv
set_option linter.unusedVariables false
set_option linter.unusedSimpArgs false

/-- bytes up to whole pages -/
def padN (n : Nat) : Nat := (256 - n % 256) % 256
def padB (b : List UInt8) : List UInt8 := b ++ List.replicate (padN b.length) 0
theorem padB_length (b : List UInt8) : (padB b).length = b.length + padN b.length := by simp [padB]
theorem padB_mod (b : List UInt8) : (padB b).length % 256 = 0 := by rw [padB_length]; unfold padN; omega
/-- a disk whose first writes went well -/
structure RwS (S : DS) (i : Int) (b : List UInt8) where
  k : Nat
  hk : k * 64 ≤ b.length
  ok : (S.wrs i (secs b k)).2 = 0
/-- .. and one that went wrong -/
structure RwE (S : DS) (i : Int) (b : List UInt8) where
  k : Nat
  hk : k * 64 + 64 ≤ b.length
  ok : (S.wrs i (secs b k)).2 = 0
  bad : (S.wrs i (secs b (k + 1))).2 ≠ 0
theorem rwE_all {S : DS} {i : Int} {b : List UInt8} (x : RwE S i b) (hm : b.length % 64 = 0) : S.wrs i (secs b (b.length / 64)) = S.wrs i (secs b (x.k + 1)) := by
  have h := x.hk
  have : secs b (b.length / 64) = secs b (x.k + 1) ++ ((List.range (b.length / 64 - (x.k + 1))).map fun j => sec b (x.k + 1 + j)) := by
    have e : b.length / 64 = (x.k + 1) + (b.length / 64 - (x.k + 1)) := by omega
    unfold secs
    conv => lhs; rw [e]
    rw [List.range_add, List.map_append, List.map_map]; rfl
  rw [this, DS.wrs_stop _ _ _ _ x.bad]
theorem rw_step {S : DS} {i : Int} {b : List UInt8} {k : Nat} (ok : (S.wrs i (secs b k)).2 = 0) : S.wrs i (secs b (k + 1)) = (S.wrs i (secs b k)).1.wr (i + k) (sec b k) := by
  rw [secs_succ, DS.wrs_snoc _ _ _ _ ok, secs_length]
theorem rd_part {h : PH} {A : Option Addr} {m c k : Nat} {l : List UInt8} (hr : Rd h (.slice A m c) m (B8 l)) (hl : l.length = m) (hk : k * 64 + 64 ≤ m) : Rd h (.slice (A.map (·.add (k * 64))) 64 64) (sec l k).length (B8 (sec l k)) := by
  have hs := sec_length (b := l) (j := k) (by omega)
  obtain ⟨A', c', hv, hc, h3⟩ := hr
  cases hv
  refine ⟨_, _, by rw [hs], ⟨by rw [hs]; exact Nat.le_refl _, by unfold maxLen; omega⟩, fun j u hu => ?_⟩
  rw [show B8 (sec l k) = ((B8 l).drop (k * 64)).take 64 by simp [sec, B8, List.map_take, List.map_drop], List.getElem?_take] at hu
  split at hu
  · rename_i hj
    rw [List.getElem?_drop] at hu
    obtain ⟨a, rfl, cs, T, fr, g1, g2, g3⟩ := h3 _ u hu
    refine ⟨a.add (k * 64), rfl, cs, T, fr, ?_, ?_, ?_⟩
    · have hb : (a.add (k * 64)).block = a.block := by unfold Addr.add; split <;> rfl
      rw [hb]; exact g1
    · rw [Addr.add_add]; exact g2
    · rw [Addr.add_add]; exact g3
  · cases hu
set_option maxHeartbeats 16000000 in
theorem page_WriteRaw (p : Nat) (S : DS) (addr : Int) (v : Value) (b : List UInt8) (h1 : PH) (hr : Rd h1 v b.length (B8 b)) (hS : S.ok) (hb : b.length ≤ 100000) (hl : S.W.length + b.length ≤ 900000) (ha : -1000000 ≤ addr ∧ addr ≤ 1000000) :
    Gv.Spec Try.prog 93 #[.pointer (some ⟨p, 0, none⟩), .int .i64 addr, v] [DSK p S, Ex h1]
    (fun r H' => r = .int .i64 ((S.wrs (addr * 4) (secs (padB b) ((padB b).length / 64))).2 : Int) ∧ H' = [DSK p (S.wrs (addr * 4) (secs (padB b) ((padB b).length / 64))).1, Ex h1]) := by
  refine Gv.Spec.of (fun w h0 hw => ?_)
  refine Calls.enterM Try.func93 rfl rfl rfl hw ?_
  simp only [argSlots]
  (try dsimp only [List.cons_append, List.nil_append])
  ((with_reducible refine TriR.seq (TriR.region ?_)); (with_reducible apply TriR.op); rfl; rfl)
  (first | ((with_reducible apply o_boxA); (case hx => rfl); (case hn => rfl); intro b3) | ((with_reducible apply o_box1); (case hx => rfl); (case h1 => rfl); (case hn => rfl); intro b3))
  ((with_reducible apply TriR.op); rfl; rfl)
  ((with_reducible apply o_alloc); (case hn => rfl); intro b6)
  ((with_reducible refine TriR.nil (Tri.thenN (TriR.seq (TriR.region ?_)))); (with_reducible apply TriR.op); rfl; rfl; (with_reducible apply o_move); rfl; rfl; (with_reducible apply TriR.op); rfl; rfl)
  ((with_reducible apply o_callR (hs := bytes_Clone v b (by omega))); (case hargs => (repeat first | exact evs.nil | (apply evs.cons; case a => rfl))); (case hpre => exact rdw_ex (by (first | ((repeat (first | with_reducible exact Pull.head | with_reducible apply Pull.tail)); done) | (repeat (first | exact Pull.head | apply Pull.tail)))) hr); (case hn => rfl))
  rintro u H' rfl
  (try dsimp only [List.cons_append, List.nil_append])
  ((with_reducible apply Tri.eqA (A := own 5 1 u b.length (B8 b)) (B := own 5 1 u (b ++ List.replicate 0 0).length (B8 (b ++ List.replicate 0 0)))); (case p => (first | ((repeat (first | with_reducible exact Pull.head | with_reducible apply Pull.tail)); done) | (repeat (first | exact Pull.head | apply Pull.tail)))); (case e => (rw [List.replicate_zero, List.append_nil])))
  ((with_reducible apply TriR.op); rfl; rfl; (with_reducible apply o_assign); rfl; rfl; (with_reducible refine TriR.nil (Tri.thenN (TriR.seq (TriR.block ?_)))))
  ((first | with_reducible apply Tri.loop (α := Σ' (j : Nat) (u : Value), j ≤ padN b.length) (m := fun x => padN b.length - x.1) (Lx := fun x => [(0, .pointer (some ⟨p, 0, none⟩)), (1, .int .i64 addr), (2, x.2.1), (3, .pointer (some ⟨b3, 0, none⟩)), (6, .pointer (some ⟨b6, 0, none⟩))]) (Hx := fun x => [own 5 1 x.2.1 (b ++ List.replicate x.1 0).length (B8 (b ++ List.replicate x.1 0)), blk b6 44 [.int .i64 0], blk b3 58 [.pointer (some ⟨p, 0, none⟩)], DSK p S, Ex h1, Ex h0]) (x0 := ⟨0, u, Nat.zero_le _⟩) | with_reducible apply TriR.loop (α := Σ' (j : Nat) (u : Value), j ≤ padN b.length) (m := fun x => padN b.length - x.1) (Lx := fun x => [(0, .pointer (some ⟨p, 0, none⟩)), (1, .int .i64 addr), (2, x.2.1), (3, .pointer (some ⟨b3, 0, none⟩)), (6, .pointer (some ⟨b6, 0, none⟩))]) (Hx := fun x => [own 5 1 x.2.1 (b ++ List.replicate x.1 0).length (B8 (b ++ List.replicate x.1 0)), blk b6 44 [.int .i64 0], blk b3 58 [.pointer (some ⟨p, 0, none⟩)], DSK p S, Ex h1, Ex h0]) (x0 := ⟨0, u, Nat.zero_le _⟩)); (case hL => ((try dsimp only); (repeat (first | exact trivial | refine And.intro (by rfl) ?_)))); (case hH => ((try dsimp only); apply St.all; (repeat (first | exact Pulls.nil | (apply Pulls.cons; (case a => (first | ((repeat (first | with_reducible exact Gv.Pull.head | with_reducible apply Gv.Pull.tail)); done) | (repeat (first | exact Gv.Pull.head | apply Gv.Pull.tail)))))))))); (rintro ⟨j, u, hj⟩ mx hmx; (try dsimp only at hmx ⊢))
  have hjl : (b ++ List.replicate j (0 : UInt8)).length = b.length + j := by simp
  ((with_reducible refine TriR.seq (TriR.seq (TriR.region ?_))); (with_reducible apply TriR.op); rfl; rfl; (with_reducible apply o_move); rfl; rfl; (with_reducible apply TriR.op); rfl; rfl; (with_reducible apply o_lenOwn); rfl; (focus (first | ((repeat (first | with_reducible exact Pull.head | with_reducible apply Pull.tail)); done) | (repeat (first | exact Pull.head | apply Pull.tail)))); rfl; (with_reducible apply TriR.op); rfl; rfl; (with_reducible apply o_rem); rfl; rfl; rfl; (omega); (omega); (with_reducible apply TriR.op); rfl; rfl; (with_reducible apply o_neq); rfl; rfl; rfl; (with_reducible refine TriR.nil (Tri.thenN ?_)))
  ((first | with_reducible apply Tri.condD | with_reducible apply TriR.condD); (case hc => rfl); (all_goals intro h))
  · have hj' : j < padN b.length := by
      rw [hjl] at h
      unfold padN at hj ⊢; omega
    ((with_reducible refine TriR.skip (Tri.thenN (TriR.block (TriR.region ?_)))); (with_reducible apply TriR.op); rfl; rfl; (with_reducible apply o_move); rfl; rfl; (with_reducible apply TriR.op); rfl; rfl)
    ((with_reducible apply o_litSl (ys := [.int .u8 0])); (case hp => (repeat first | exact pev.nil | (apply pev.cons; case a => rfl))); (case hm => rfl); (case hf => rfl); (case hn => rfl); intro vl)
    ((with_reducible apply TriR.op); rfl; rfl)
    ((with_reducible apply o_append); (case hx => rfl); (case hy => rfl); (case p => (first | ((repeat (first | with_reducible exact Pull.head | with_reducible apply Pull.tail)); done) | (repeat (first | exact Pull.head | apply Pull.tail)))); (case hr => exact rdw_own (by (first | ((repeat (first | with_reducible exact Pull.head | with_reducible apply Pull.tail)); done) | (repeat (first | exact Pull.head | apply Pull.tail))))); (case hl => rfl); (case h1 => (intro y hy; simp at hy; subst hy; rfl)); (case hb => (rw [hjl]; unfold padN at hj; omega)); (case hn => rfl))
    intro u'
    ((with_reducible apply TriR.op); rfl; rfl; (with_reducible apply o_assign); rfl; rfl; (with_reducible refine TriR.nil (Tri.blockN (Tri.thenN ?_))))
    ((with_reducible apply Tri.eqA (A := own 5 1 u' _ _) (B := own 5 1 u' (b ++ List.replicate (j + 1) 0).length (B8 (b ++ List.replicate (j + 1) 0)))); (case p => (first | ((repeat (first | with_reducible exact Pull.head | with_reducible apply Pull.tail)); done) | (repeat (first | exact Pull.head | apply Pull.tail)))); (case e => (rw [List.replicate_succ', ← List.append_assoc, B8_append (b ++ List.replicate j 0) [0], List.length_append (bs := [(0 : UInt8)])]; rfl)))
    ((with_reducible apply Tri.again (y := ⟨j + 1, u', by omega⟩)); (case p => ((try dsimp only); (repeat (first | exact Pulls.nil | (apply Pulls.cons; (case a => (first | ((repeat (first | with_reducible exact Gv.Pull.head | with_reducible apply Gv.Pull.tail)); done) | (repeat (first | exact Gv.Pull.head | apply Gv.Pull.tail))))))))); (case hm => ((try dsimp only); omega)); (try dsimp only))
    (repeat (first | exact trivial | refine And.intro (by rfl) ?_))
  · have hje : j = padN b.length := by
      rw [hjl] at h
      unfold padN at hj ⊢; omega
    subst hje
    obtain ⟨B, hB⟩ : ∃ B, B = padB b := ⟨_, rfl⟩
    rw [show b ++ List.replicate (padN b.length) 0 = B by rw [hB]; rfl]
    rw [← hB]
    have hBm : B.length % 256 = 0 := by rw [hB]; exact padB_mod b
    have hBl : B.length ≤ b.length + 255 := by rw [hB, padB_length]; unfold padN; omega
    refine Tri.shut (e := 5) (size := 1) (v := u) (by (first | ((repeat (first | with_reducible exact Pull.head | with_reducible apply Pull.tail)); done) | (repeat (first | exact Pull.head | apply Pull.tail)))) (fun h2 ho => ?_)
    have hr2 := own_Rd ho
    obtain ⟨A, c, hu, hmc, _⟩ := hr2.slice
    subst hu
    ((with_reducible refine TriR.exit (Tri.thenE (Tri.thenE (Tri.blockE (Tri.thenN (TriR.seq (TriR.region ?_))))))); (with_reducible apply TriR.op); rfl; rfl; (with_reducible apply o_move); rfl; rfl; (with_reducible apply TriR.op); rfl; rfl; (with_reducible apply o_mul64); rfl; rfl; rfl; (omega); (with_reducible apply TriR.op); rfl; rfl)
    ((with_reducible apply o_alloc); (case hn => rfl); intro b7)
    ((with_reducible apply TriR.op); rfl; rfl; (with_reducible apply o_store); rfl; rfl; rfl; (focus (first | ((repeat (first | with_reducible exact Pull.head | with_reducible apply Pull.tail)); done) | (repeat (first | exact Pull.head | apply Pull.tail)))); (exact Nat.le_of_ble_eq_true rfl); (with_reducible refine TriR.nil (Tri.thenN (TriR.seq (TriR.seq (TriR.region ?_))))); (with_reducible apply TriR.op); rfl; rfl; (with_reducible apply o_move); rfl; rfl; (with_reducible apply TriR.op); rfl; rfl)
    ((with_reducible apply o_callR (hs := slices_Chunk A B.length c)); (case hargs => (repeat first | exact evs.nil | (apply evs.cons; case a => rfl))); (case hpre => exact fun _ _ => trivial); (case hn => rfl))
    rintro r2 H2 ⟨b8, b9, rfl, rfl⟩
    (try dsimp only [List.cons_append, List.nil_append])
    ((with_reducible refine TriR.nil (Tri.thenN (TriR.block ?_))))
    ((with_reducible apply Tri.eqA (A := blk b7 3 _) (B := blk b7 3 [.int .i64 (addr * 4 + ((0 : Nat) : Int))])); (case p => (first | ((repeat (first | with_reducible exact Pull.head | with_reducible apply Pull.tail)); done) | (repeat (first | exact Pull.head | apply Pull.tail)))); (case e => (rw [show addr * 4 + ((0 : Nat) : Int) = addr * 4 by omega]; rfl)))
    refine TriR.range (α := RwS S (addr * 4) B) (β := RwE S (addr * 4) B) (γ := Unit) RwS.k
      (fun x => [blk b7 3 [.int .i64 (addr * 4 + (x.k : Int))], DSK p (S.wrs (addr * 4) (secs B x.k)).1, Ex h2, blk b3 58 [.pointer (some ⟨p, 0, none⟩)], blk b6 44 [.int .i64 0]]) ⟨0, by omega, rfl⟩ (fun _ => .ret)
      (fun y => [DSK p (S.wrs (addr * 4) (secs B (y.k + 1))).1, blk b6 44 [.int .i64 ((S.wrs (addr * 4) (secs B (y.k + 1))).2 : Int)]])
      (fun x _ => [(3, .pointer (some ⟨b3, 0, none⟩)), (6, .pointer (some ⟨b6, 0, none⟩)), (7, .pointer (some ⟨b7, 0, none⟩)), (8, .slice (A.map (·.add (x.k * 64))) 64 64)])
      (fun x _ => [blk b7 3 [.int .i64 (addr * 4 + (x.k : Int))], DSK p (S.wrs (addr * 4) (secs B x.k)).1, Ex h2, blk b3 58 [.pointer (some ⟨p, 0, none⟩)], blk b6 44 [.int .i64 0]])
      (chunk_iter A B.length c b8 b9 (by omega) ⟨hmc, by omega⟩) rfl rfl (by (repeat (first | exact Pulls.nil | (apply Pulls.cons; (case a => (first | ((repeat (first | with_reducible exact Gv.Pull.head | with_reducible apply Gv.Pull.tail)); done) | (repeat (first | exact Gv.Pull.head | apply Gv.Pull.tail)))))))) ?_ ?_ ?_ ?_ ?_ ?_
    · intro y hy
      obtain ⟨k, _, rfl⟩ := List.mem_map.1 hy
      rfl
    · intro q hq
      simp at hq
      subst hq
      rfl
    · intro l x vs hvs hq
      obtain ⟨_, rfl⟩ := chunks_of (by omega) hvs
      simp only [zipL]
      (try dsimp only [List.cons_append, List.nil_append])
      ((with_reducible refine TriR.region ?_); (with_reducible apply TriR.op); rfl; rfl; (with_reducible apply o_assign); rfl; rfl; (with_reducible refine TriR.nil (Tri.thenN ?_)))
      ((with_reducible apply Tri.reach (y := ())); (case hL => ((try dsimp only); (repeat (first | exact trivial | refine And.intro (by rfl) ?_)))); (case p => ((try dsimp only); (repeat (first | exact Pulls.nil | (apply Pulls.cons; (case a => (first | ((repeat (first | with_reducible exact Gv.Pull.head | with_reducible apply Gv.Pull.tail)); done) | (repeat (first | exact Gv.Pull.head | apply Gv.Pull.tail))))))))))
    · intro l x vs hvs z hq
      obtain ⟨hk1, _⟩ := chunks_of (by omega) hvs
      have hxk := x.hk
      have hS' := DS.wrs_ok (secs B x.k) (addr * 4) hS
      have hlen := (DS.wrs_len (secs B x.k) S (addr * 4)).1
      rw [secs_length] at hlen
      have hst := rw_step x.ok
      (try dsimp only [List.cons_append, List.nil_append])
      ((with_reducible refine TriR.block (TriR.seq (TriR.seq (TriR.region ?_)))); (with_reducible apply TriR.op); rfl; rfl; (with_reducible apply o_load); rfl; (focus (first | ((repeat (first | with_reducible exact Pull.head | with_reducible apply Pull.tail)); done) | (repeat (first | exact Pull.head | apply Pull.tail)))); rfl; rfl; (with_reducible apply TriR.op); rfl; rfl; (with_reducible apply o_load); rfl; (focus (first | ((repeat (first | with_reducible exact Pull.head | with_reducible apply Pull.tail)); done) | (repeat (first | exact Pull.head | apply Pull.tail)))); rfl; rfl; (with_reducible apply TriR.op); rfl; rfl; (with_reducible apply o_move); rfl; rfl; (with_reducible apply TriR.op); rfl; rfl)
      ((with_reducible apply o_callS (hs := disk_WriteD p (S.wrs (addr * 4) (secs B x.k)).1 (addr * 4 + (x.k : Int)) (.slice (A.map (·.add (x.k * 64))) 64 64) (sec B x.k) h2 (rd_part hr2 rfl hk1) hS' (by omega))); (case hargs => (repeat first | exact evs.nil | (apply evs.cons; case a => rfl))); (case p => (repeat (first | exact Pulls.nil | (apply Pulls.cons; (case a => (first | ((repeat (first | with_reducible exact Gv.Pull.head | with_reducible apply Gv.Pull.tail)); done) | (repeat (first | exact Gv.Pull.head | apply Gv.Pull.tail)))))))); (case hn => rfl))
      rintro r3 H3 ⟨rfl, rfl⟩
      rw [← hst]
      (try dsimp only [List.cons_append, List.nil_append])
      ((with_reducible apply TriR.op); rfl; rfl; (with_reducible apply o_assign); rfl; rfl; (with_reducible refine TriR.nil (Tri.thenN (TriR.seq (TriR.region ?_)))); (with_reducible apply TriR.op); rfl; rfl; (with_reducible apply o_move); rfl; rfl; (with_reducible apply TriR.op); rfl; rfl; (with_reducible apply o_neq); rfl; rfl; rfl; (with_reducible refine TriR.nil (Tri.thenN ?_)))
      by_cases hz : (S.wrs (addr * 4) (secs B (x.k + 1))).2 = 0
      · ((with_reducible apply Tri.setb 29 (false)); (case h => rfl); (case hi => (rw [hz]; rfl)))
        ((with_reducible apply TriR.condF); rfl; rfl; (with_reducible refine TriR.skip (Tri.thenN (TriR.region ?_))); (with_reducible apply TriR.op); rfl; rfl; (with_reducible apply o_load); rfl; (focus (first | ((repeat (first | with_reducible exact Pull.head | with_reducible apply Pull.tail)); done) | (repeat (first | exact Pull.head | apply Pull.tail)))); rfl; rfl; (with_reducible apply TriR.op); rfl; rfl; (with_reducible apply o_add64); rfl; rfl; rfl; (omega); (with_reducible apply TriR.op); rfl; rfl; (with_reducible apply o_store); rfl; rfl; rfl; (focus (first | ((repeat (first | with_reducible exact Pull.head | with_reducible apply Pull.tail)); done) | (repeat (first | exact Pull.head | apply Pull.tail)))); (exact Nat.le_of_ble_eq_true rfl); (with_reducible refine TriR.nil (Tri.blockN ?_)))
        ((with_reducible apply Tri.eqA (A := blk b7 3 _) (B := blk b7 3 [.int .i64 (addr * 4 + ((x.k + 1 : Nat) : Int))])); (case p => (first | ((repeat (first | with_reducible exact Pull.head | with_reducible apply Pull.tail)); done) | (repeat (first | exact Pull.head | apply Pull.tail)))); (case e => (rw [show addr * 4 + ((x.k + 1 : Nat) : Int) = addr * 4 + (x.k : Int) + 1 by omega]; rfl)))
        skip
        ((with_reducible apply Tri.rdEnd (y := ⟨x.k + 1, by omega, hz⟩)); (case hk => rfl); (case p => ((try dsimp only [List.cons_append, List.nil_append]); (repeat (first | exact Pulls.nil | (apply Pulls.cons; (case a => (first | ((repeat (first | with_reducible exact Gv.Pull.head | with_reducible apply Gv.Pull.tail)); done) | (repeat (first | exact Gv.Pull.head | apply Gv.Pull.tail))))))))))
      · ((with_reducible apply Tri.setb 29 (true)); (case h => rfl); (case hi => (rw [decide_eq_true]; omega)))
        ((with_reducible apply TriR.condT); rfl; rfl; (with_reducible refine TriR.seq (TriR.region ?_)); (with_reducible apply TriR.op); rfl; rfl; (with_reducible apply o_move); rfl; rfl; (with_reducible apply TriR.op); rfl; rfl; (with_reducible apply o_store); rfl; rfl; rfl; (focus (first | ((repeat (first | with_reducible exact Pull.head | with_reducible apply Pull.tail)); done) | (repeat (first | exact Pull.head | apply Pull.tail)))); (exact Nat.le_of_ble_eq_true rfl); (with_reducible refine TriR.nil (Tri.thenN (TriR.ret (Tri.thenR (Tri.blockR ?_))))))
        ((with_reducible apply Tri.rdRet (y := ⟨x.k, by omega, x.ok, hz⟩)); (case hj => rfl); (case p => ((try dsimp only [List.cons_append, List.nil_append]); (repeat (first | exact Pulls.nil | (apply Pulls.cons; (case a => (first | ((repeat (first | with_reducible exact Gv.Pull.head | with_reducible apply Gv.Pull.tail)); done) | (repeat (first | exact Gv.Pull.head | apply Gv.Pull.tail))))))))))
    · intro D y hy
      have e : y.k = B.length / 64 := by rw [hy]; simp [chunks]
      (try dsimp only [List.cons_append, List.nil_append])
      ((with_reducible refine Tri.blockN (Tri.thenN (TriR.seq (TriR.region ?_)))); (with_reducible apply TriR.op); rfl; rfl; (with_reducible apply o_store); rfl; rfl; rfl; (focus (first | ((repeat (first | with_reducible exact Pull.head | with_reducible apply Pull.tail)); done) | (repeat (first | exact Pull.head | apply Pull.tail)))); (exact Nat.le_of_ble_eq_true rfl); (with_reducible refine TriR.nil (Tri.thenN (TriR.ret ?_))))
      ((first | with_reducible apply Tri.finM1 | with_reducible apply Tri.finM1N); (case p => (first | ((repeat (first | with_reducible exact Pull.head | with_reducible apply Pull.tail)); done) | (repeat (first | exact Pull.head | apply Pull.tail)))); (case hr => rfl); (case h => exact ResL.cons (Res1.cell rfl (by (first | ((repeat (first | with_reducible exact Pull.head | with_reducible apply Pull.tail)); done) | (repeat (first | exact Pull.head | apply Pull.tail)))) rfl) (ResL.nil)); (apply fin_R (Hn := [DSK p (S.wrs (addr * 4) (secs B y.k)).1, Ex h1])); (case p => exact (by (repeat (first | exact Pulls.nil | (apply Pulls.cons; (case a => (first | ((repeat (first | with_reducible exact Gv.Pull.head | with_reducible apply Gv.Pull.tail)); done) | (repeat (first | exact Gv.Pull.head | apply Gv.Pull.tail))))))))); (rw [← e]; exact ⟨by rw [y.ok]; rfl, rfl⟩))
    · intro D y
      have e := rwE_all y (by omega)
      (try dsimp only [List.cons_append, List.nil_append])
      ((with_reducible refine TriR.ret (Tri.blockR (Tri.thenR ?_))))
      ((first | with_reducible apply Tri.finM1 | with_reducible apply Tri.finM1N); (case p => (first | ((repeat (first | with_reducible exact Pull.head | with_reducible apply Pull.tail)); done) | (repeat (first | exact Pull.head | apply Pull.tail)))); (case hr => rfl); (case h => exact ResL.cons (Res1.cell rfl (by (first | ((repeat (first | with_reducible exact Pull.head | with_reducible apply Pull.tail)); done) | (repeat (first | exact Pull.head | apply Pull.tail)))) rfl) (ResL.nil)); (apply fin_R (Hn := [DSK p (S.wrs (addr * 4) (secs B (y.k + 1))).1, Ex h1])); (case p => exact (by (repeat (first | exact Pulls.nil | (apply Pulls.cons; (case a => (first | ((repeat (first | with_reducible exact Gv.Pull.head | with_reducible apply Gv.Pull.tail)); done) | (repeat (first | exact Gv.Pull.head | apply Gv.Pull.tail))))))))); (rw [e]; exact ⟨rfl, rfl⟩))
end Go.Proofs.Ytckdlfbbkemklaa
