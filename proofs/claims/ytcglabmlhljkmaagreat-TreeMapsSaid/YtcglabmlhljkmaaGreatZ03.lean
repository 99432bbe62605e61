/- Texts of this claim, put together: ChWalk, CrcPlain, CrcWalk, DkPlain, DkWalk, DvPlain, DkWalk2, DkWalk3, DkWalk4, DkWalk5, DvWalk, PgRaw, PgRaw2, CrcPlain2, CrcBurstPlain, PgPlain, PgWalk, PgWalk2, PgWalk3, PgDisk, NdPlain, NdPlain2. -/
import Derived.Test.YtcglabmlhljkmaaGreatZ02
import Derived.Test.YtcglabmlhljkmaaGreatZ01
section
/- slices.Chunk of bytes, and the iterator that it hands back. -/
namespace Go.Proofs.YtcglabmlhljkmaaGreat
open Go Go.RowKit Go.Gv
set_option linter.unusedVariables false
set_option linter.unusedSimpArgs false

theorem slices_Chunk (A : Option Addr) (m c : Nat) : SpecR Tryz.prog 128 #[.slice A m c, .int .i64 64] (fun _ => True) (fun r H' => ∃ b2 b3 : Nat, r = .func (.func 168) #[] [.pointer (some ⟨b2, 0, none⟩), .pointer (some ⟨b3, 0, none⟩)].toArray ∧ H' = [blk b2 86 [.slice A m c], blk b3 3 [.int .i64 64]]) := by
  refine SpecR.of (fun w _ => ?_)
  refine Calls.enter Tryz.func128 rfl rfl rfl (St.rebase w) ?_
  simp only [argSlots]
  refine Ws ?_
  (refine Wbx ?_; intro b2)
  refine Ws ?_
  (refine Wbx ?_; intro b3)
  refine Ws ?_
  refine Zz 6 false ?_
  refine Ws ?_
  refine ZomakeFunc (vs := [.pointer (some ⟨b2, 0, none⟩), .pointer (some ⟨b3, 0, none⟩)]) ?_ (hc := by exact ⟨rfl, rfl, trivial⟩)
  refine Ws ?_
  refine Zfn [blk b2 86 [.slice A m c], blk b3 3 [.int .i64 64]] (hq := ?_)
  exact ⟨b2, b3, rfl, rfl⟩

def chunks (A : Option Addr) (m : Nat) : List (List Value) := (List.range (m / 64)).map fun k => [.slice (A.map (·.add (k * 64))) 64 64]
theorem chunks_get {A : Option Addr} {m k : Nat} (h : k * 64 + 64 ≤ m) : (chunks A m)[k]? = some [.slice (A.map (·.add (k * 64))) 64 64] := by
  unfold chunks
  rw [List.getElem?_map, List.getElem?_range (by omega)]; rfl
theorem chunks_of {A : Option Addr} {m k : Nat} {vs : List Value} (hm : m % 64 = 0) (h : (chunks A m)[k]? = some vs) : k * 64 + 64 ≤ m ∧ vs = [.slice (A.map (·.add (k * 64))) 64 64] := by
  have hk : k < m / 64 := by
    have := (List.getElem?_eq_some_iff.1 h).1
    simpa [chunks] using this
  have h2 : k * 64 + 64 ≤ m := by omega
  rw [chunks_get h2] at h
  exact ⟨h2, (Option.some.inj h).symm⟩
set_option maxHeartbeats 4000000 in
theorem chunk_iter (A : Option Addr) (m c b2 b3 : Nat) (hm : m % 64 = 0) (hc : m ≤ c ∧ m ≤ 1000000000) : Iter Tryz.prog 168 [.pointer (some ⟨b2, 0, none⟩), .pointer (some ⟨b3, 0, none⟩)] [blk b2 86 [.slice A m c], blk b3 3 [.int .i64 64]] (chunks A m) := by
  refine Iter.of (fun w0 l I J hY w h0 hw => ?_)
  have hxl : (chunks A m).length = m / 64 := by simp [chunks]
  rw [hxl]
  refine Calls.enter Tryz.func168 rfl rfl rfl hw ?_
  simp only [argSlots]
  refine Tri.wr ?_
  refine Wap ?_
  refine Ws ?_
  (refine Wl (α := { k : Nat // k ≤ m / 64 }) (fun x => m / 64 - x.1) (fun x => [(0, .func (.yield l) #[] #[]), (1, .pointer (some ⟨b2, 0, none⟩)), (2, .pointer (some ⟨b3, 0, none⟩)), (4, .int .i64 ((x.1 * 64 : Nat) : Int))]) (fun x => [I x.1, blk b2 86 [.slice A m c], blk b3 3 [.int .i64 64], Ex h0]) ⟨0, Nat.zero_le _⟩ ?_; rintro ⟨k, hk⟩ mx hmx; (try dsimp only at hmx ⊢))
  refine Ws ?_
  (refine Wcd ?_ ?_ <;> intro h)
  · have hk' : k * 64 + 64 ≤ m := by omega
    refine Ws ?_
    refine Wm [blk b2 86 [.slice A m c], blk b3 3 [.int .i64 64]] ?_
    refine Wq [0, 1, 2] ?_
    refine Zm 3 (h := fun _ _ x => by exact ZosliceH (lo := k * 64) (hi := m) x) (k := ?_)
    refine Wq [4, 5, 6] ?_
    refine ZE ?_
    refine Zi 5 64 ?_ (hi := by omega)
    refine Ws ?_
    refine Zi 24 ((k * 64 + 64 : Nat) : Int) ?_ (hi := by omega)
    refine Zi 27 ((k * 64 + 64 : Nat) : Int) ?_ (hi := by omega)
    refine Zoslice3 (lo := k * 64) (hi := k * 64 + 64) (mx := k * 64 + 64) ?_
    refine Zv 28 (.slice (A.map (·.add (k * 64))) 64 64) ?_ (hv := by rw [if_neg (by omega), show k * 64 + 64 - k * 64 = 64 by omega, Nat.mul_one])
    refine Ws ?_
    ((with_reducible apply TriR.yield (hy := hY k _ (chunks_get hk'))); (case hx => rfl); (case hargs => (repeat (first | exact evs.nil | (apply evs.cons; (case a => rfl))))); (case hn => rfl); (case p => (first | ((repeat (first | with_reducible exact Pull.head | with_reducible apply Pull.tail)); done) | (repeat (first | exact Pull.head | apply Pull.tail)))))
    · refine Ws ?_
      refine Zz 30 false ?_
      refine Ws ?_
      refine Zi 4 (((k + 1) * 64 : Nat) : Int) ?_ (hi := by omega)
      exact Zag ⟨k + 1, by omega⟩
    · refine Ws ?_
      refine Zz 30 true ?_
      refine Ws ?_
      (first | with_reducible apply Tri.fin | with_reducible apply Tri.finN)
      case hr => rfl
      case h => exact ResL.nil
      exact fun w' hw' => .inr ⟨(hw'.pulls (As := [J, blk b2 86 [.slice A m c], blk b3 3 [.int .i64 64], Ex h0]) Wps).1, Sat.left (hw'.pulls Wps).2⟩
  · obtain rfl : k = m / 64 := by omega
    refine Ws ?_
    (first | with_reducible apply Tri.fin | with_reducible apply Tri.finN)
    case hr => rfl
    case h => exact ResL.nil
    exact fun w' hw' => .inl ⟨(hw'.pulls (As := [I (m / 64), blk b2 86 [.slice A m c], blk b3 3 [.int .i64 64], Ex h0]) Wps).1, Sat.left (hw'.pulls Wps).2⟩
end Go.Proofs.YtcglabmlhljkmaaGreat
end
section
/- The sum as plain functions. -/
namespace Go.Gv
def crcBit (n : UInt32) : UInt32 := (n >>> 1) ^^^ (0x82F63B78 &&& (0 - (n &&& 1)))
def crcBits : Nat → UInt32 → UInt32
  | 0, n => n
  | k + 1, n => crcBits k (crcBit n)
def crcTab (i : Nat) : UInt32 := crcBits 8 (UInt32.ofNat i)
def crcByte (n : UInt32) (c : UInt8) : UInt32 := (n >>> 8) ^^^ crcTab (n.toUInt8 ^^^ c).toNat
def crcFold (n : UInt32) (l : List UInt8) : UInt32 := l.foldl crcByte n
def crcBehind (sum : UInt32) (l : List UInt8) : UInt32 := ~~~ (crcFold (~~~ sum) l)
def crcSum (l : List UInt8) : UInt32 := crcBehind 0 l
theorem crcBits_succ (k : Nat) (n : UInt32) : crcBits (k + 1) n = crcBit (crcBits k n) := by
  induction k generalizing n with
  | zero => rfl
  | succ k ih => exact ih (crcBit n)
end Go.Gv
end
section
/- crc: what its functions answer. -/
namespace Go.Proofs.YtcglabmlhljkmaaGreat
open Go Go.RowKit Go.Gv
set_option linter.unusedVariables false

/-- bytes as cells -/
def B8 (l : List UInt8) : List Value := l.map fun c => .int .u8 (c.toNat : Int)
theorem B8_length (l : List UInt8) : (B8 l).length = l.length := by simp [B8]
theorem B8_sub (l : List UInt8) (lo hi : Nat) : ((B8 l).drop (lo * 1)).take ((hi - lo) * 1) = B8 ((l.drop lo).take (hi - lo)) := by simp [B8, List.map_take, List.map_drop]
theorem B8_append (a b : List UInt8) : B8 (a ++ b) = B8 a ++ B8 b := by simp [B8]
theorem B8_get (l : List UInt8) (j : Nat) (h : j < l.length) : (B8 l)[j]? = some (.int .u8 (l[j].toNat : Int)) := by simp [B8, h]
def tabL : List Value := (List.range 256).map fun i => .int .u32 ((crcTab i).toNat : Int)
theorem tabL_get (j : Nat) (h : j < 256) : tabL[j]? = some (.int .u32 ((crcTab j).toNat : Int)) := by simp [tabL, h]
def tabV : Value := .agg tabL.toArray
theorem foldl_take {α β : Type} (f : β → α → β) (b : β) (l : List α) (k : Nat) (h : k < l.length) : (l.take (k + 1)).foldl f b = f ((l.take k).foldl f b) l[k] := by
  rw [List.take_succ_eq_append_getElem h, List.foldl_append]; rfl

set_option maxHeartbeats 400000 in
theorem crc_Behind (sum : UInt32) (v : Value) (l : List UInt8) :
    SpecR Tryz.prog 136 #[tabV, .int .u32 (sum.toNat : Int), v] (fun w => RdW w v l.length (B8 l)) (fun r H' => r = .int .u32 ((crcBehind sum l).toNat : Int) ∧ H' = []) := by
  refine SpecR.of (fun w hr => ?_)
  have hlen := hr.le
  refine Calls.enter Tryz.func136 rfl rfl rfl (St.rebase w) ?_
  simp only [argSlots]
  refine Ws ?_
  (refine Wbx ?_; intro bt)
  refine Ws ?_
  refine Zi 7 ((~~~ sum).toNat : Int) ?_ (hi := by exact com32 sum)
  refine o_lenRd rfl hr rfl ?_
  refine Ws ?_
  (refine Wl (α := { k : Nat // k ≤ l.length }) (fun x => l.length - x.1) (fun x => [(3, .pointer (some ⟨bt, 0, none⟩)), (7, .int .u32 ((crcFold (~~~ sum) (l.take x.1)).toNat : Int)), (12, v), (13, .int .i64 (l.length : Int)), (14, .int .i64 (x.1 : Int))]) (fun x => [blk bt 70 tabL, Ex (hp w)]) ⟨0, Nat.zero_le _⟩ ?_; rintro ⟨k, hk⟩ mx hmx; (try dsimp only at hmx ⊢))
  refine Ws ?_
  (refine Wcd ?_ ?_ <;> intro h)
  · have hk' : k < l.length := by omega
    refine Ws ?_
    refine Zir (hr := hr) ?_ (hl := by rw [B8_length]; omega)
    refine Ws ?_
    refine Zlr (hr := hr) ?_ (hv := by exact (by rw [Nat.mul_one]; exact B8_get l k hk'))
    refine Ws ?_
    refine Zi 23 (((crcFold (~~~sum) (l.take k)).toUInt8 ^^^ l[k]).toNat : Int) ?_ (hi := by rw [← wrapu8, low8, xor8])
    refine Zia ?_ (hlt := by exact UInt8.toNat_lt _)
    refine ZTriop ?_
    refine Zl ?_ (hv := by exact (by rw [Nat.zero_add, Nat.mul_one]; exact tabL_get _ (UInt8.toNat_lt _)))
    refine Ws ?_
    refine Zi 7 ((crcFold (~~~sum) (l.take (k + 1))).toNat : Int) ?_ (hi := by unfold crcFold; rw [foldl_take _ _ _ _ hk', crcByte, shr32 _ 8 (by omega) 8 rfl, xor32]; rfl)
    exact Zag ⟨k + 1, Nat.succ_le_of_lt hk'⟩
  · refine Ws ?_
    have e : k = l.length := by omega
    subst e
    refine Zfn [] (hq := ?_)
    exact ⟨by rw [com32, List.take_length]; rfl, rfl⟩

theorem B8_one (l : List UInt8) : ∀ y ∈ B8 l, y.oneCell' = true := by
  intro y hy; simp [B8] at hy; obtain ⟨c, _, rfl⟩ := hy; rfl
theorem tabL_one : ∀ y ∈ tabL, y.oneCell' = true := by
  intro y hy; simp [tabL] at hy; obtain ⟨c, _, rfl⟩ := hy; rfl
theorem tabL_length : tabL.length = 256 := by simp [tabL]

set_option maxHeartbeats 400000 in
theorem crc_Sum (v : Value) (l : List UInt8) :
    SpecR Tryz.prog 90 #[tabV, v] (fun w => RdW w v l.length (B8 l)) (fun r H' => r = .int .u32 ((crcSum l).toNat : Int) ∧ H' = []) := by
  refine SpecR.of (fun w hr => ?_)
  refine Calls.enter Tryz.func90 rfl rfl rfl (St.rebase w) ?_
  simp only [argSlots]
  refine Ws ?_
  (refine Wbx ?_; intro bt)
  refine Ws ?_
  refine Zla ?_ (hl := by exact tabL_length)
  refine Ws ?_
  refine Zcr (crc_Behind 0 v l) ?_ (hpre := by exact rdw_ex Wp hr)
  rintro v_ H_ ⟨rfl, rfl⟩
  refine Ws ?_
  refine Zfn [] (hq := ?_)
  exact ⟨rfl, rfl⟩

theorem crc_bit_run (j : Nat) (x : UInt32) :
    Go.bits .xor .u32 (((crcBits j x).toNat : Int) / 2 ^ min (Int.toNat 1) IntKind.u32.bits) (Go.bits .and .u32 2197175160 (IntKind.u32.wrap (0 - Go.bits .and .u32 ((crcBits j x).toNat : Int) 1))) = ((crcBits (j + 1) x).toNat : Int) := by
  have h1 : Go.bits .and .u32 ((crcBits j x).toNat : Int) 1 = (((crcBits j x) &&& 1).toNat : Int) := and32 _ 1
  rw [h1, neg32, show (2197175160 : Int) = ((0x82F63B78 : UInt32).toNat : Int) from rfl, and32, shr32 _ 1 (by omega) 1 rfl, xor32, crcBits_succ]
  rfl

/-- the table as far as it is made -/
def tabTo (k : Nat) : List Value := (List.range k).map (fun i => .int .u32 ((crcTab i).toNat : Int)) ++ List.replicate (256 - k) (.int .u32 0)
theorem tabTo_length (k : Nat) (h : k ≤ 256) : (tabTo k).length = 256 := by simp [tabTo]; omega
theorem tabTo_256 : tabTo 256 = tabL := by unfold tabTo tabL; rw [Nat.sub_self, List.replicate_zero, List.append_nil]
theorem tabTo_set (k : Nat) (h : k < 256) : (tabTo k).set k (.int .u32 ((crcTab k).toNat : Int)) = tabTo (k + 1) := by
  unfold tabTo
  have e : 256 - k = (256 - (k + 1)) + 1 := by omega
  rw [List.set_append_right _ _ (by simp), e, List.replicate_succ, List.range_succ]
  simp

set_option maxHeartbeats 400000 in
theorem crc_New : SpecR Tryz.prog 27 #[] (fun _ => True) (fun r H' => r = tabV ∧ H' = []) := by
  refine SpecR.of (fun w _ => ?_)
  refine Calls.enter Tryz.func27 rfl rfl rfl (St.rebase w) ?_
  simp only [argSlots]
  refine Ws ?_
  refine Zal fun br => ?_
  refine Ws ?_
  refine Zal fun bt => ?_
  refine Ws ?_
  refine Zat (blk bt 70 (List.replicate 256 (.int .u32 0))) (blk bt 70 (tabTo 0)) ?_
  (refine Wl (α := { k : Nat // k ≤ 256 }) (fun x => 256 - x.1) (fun x => [(0, .pointer (some ⟨br, 0, none⟩)), (1, .pointer (some ⟨bt, 0, none⟩)), (4, .int .i64 (x.1 : Int))]) (fun x => [blk br 70 (List.replicate 256 (.int .u32 0)), blk bt 70 (tabTo x.1), Ex (hp w)]) ⟨0, Nat.zero_le _⟩ ?_; rintro ⟨k, hk⟩ mx hmx; (try dsimp only at hmx ⊢))
  refine Ws ?_
  (refine Wcd ?_ ?_ <;> intro h)
  · refine Ws ?_
    have hk' : k < 256 := by omega
    refine Zi 3 ((crcBits 0 (UInt32.ofNat k)).toNat : Int) ?_ (hi := by simp only [crcBits, UInt32.toNat_ofNat']; omega)
    (refine Wl (α := { j : Nat // j ≤ 8 }) (fun x => 8 - x.1) (fun x => [(0, .pointer (some ⟨br, 0, none⟩)), (1, .pointer (some ⟨bt, 0, none⟩)), (4, .int .i64 (k : Int)), (2, .int .i64 (k : Int)), (9, .int .i64 (x.1 : Int)), (3, .int .u32 ((crcBits x.1 (UInt32.ofNat k)).toNat : Int))]) (fun _ => [blk br 70 (List.replicate 256 (.int .u32 0)), blk bt 70 (tabTo k), Ex (hp w)]) ⟨0, Nat.zero_le _⟩ ?_; rintro ⟨j, hj⟩ mx hmx; (try dsimp only at hmx ⊢))
    refine Ws ?_
    (refine Wcd ?_ ?_ <;> intro h2)
    · refine Ws ?_
      refine Zi 3 ((crcBits (j + 1) (UInt32.ofNat k)).toNat : Int) ?_ (hi := by exact crc_bit_run j _)
      exact Zag ⟨j + 1, by omega⟩
    · have e : j = 8 := by omega
      subst e
      refine Ws ?_
      refine ZS ?_ (hi := by rw [tabTo_length k hk]; omega)
      refine Zat (blk bt 70 _) (blk bt 70 (tabTo (k + 1))) ?_ (e := by rw [Nat.zero_add, Nat.mul_one]; exact congrArg _ (tabTo_set k hk'))
      refine Ws ?_
      exact Zag ⟨k + 1, by omega⟩
  · have e : k = 256 := by omega
    subst e
    refine Ws ?_
    refine Zat (blk bt 70 (tabTo 256)) (blk bt 70 tabL) ?_ (e := by show blk bt 70 (tabTo 256) = _; rw [tabTo_256])
    refine Zla ?_ (hl := by exact tabL_length)
    refine Ws ?_
    refine ZSa ?_ (hl := by exact tabL_length) (hc := by exact List.length_replicate) (h1 := by exact tabL_one)
    refine Ws ?_
    (first | with_reducible apply Tri.fin | with_reducible apply Tri.finN)
    case hr => rfl
    case h => exact ResL.cons (Res1.agg rfl Wp (by rw [List.drop_zero]; exact List.take_of_length_le (Nat.le_of_eq tabL_length)) tabL_length) ResL.nil
    apply fin_R (Hn := [])
    case p => exact Wps
    exact ⟨rfl, rfl⟩
end Go.Proofs.YtcglabmlhljkmaaGreat
end
section
/- disk: what its functions compute, in plain terms. -/
namespace Go.Proofs.YtcglabmlhljkmaaGreat
open Go Go.RowKit Go.Gv
set_option linter.unusedVariables false
set_option linter.unusedSimpArgs false

/-- a write that waits: its sector, the slice that holds its bytes, these bytes -/
structure WW where
  i : Nat
  v : Value
  b : List UInt8
def WL (W : List WW) : List Value := W.flatMap fun x => [.int .i64 (x.i : Int), x.v]
def WT (W : List WW) : List (Value × Nat × List Value) := W.map fun x => (x.v, x.b.length, B8 x.b)
theorem WL_drop : ∀ (W : List WW) (k : Nat), (WL W).drop (k * 2) = WL (W.drop k)
  | W, 0 => rfl
  | [], k + 1 => by simp [WL]
  | x :: W, k + 1 => by
    rw [show (k + 1) * 2 = k * 2 + 2 by omega, ← List.drop_drop, List.drop_drop, Nat.add_comm, ← List.drop_drop]
    exact WL_drop W k
theorem WL_get0 (W : List WW) (k : Nat) (h : k < W.length) : (WL W)[k * 2 + 0]? = some (.int .i64 ((W[k]'h).i : Int)) := by
  have := WL_drop W k
  have e : ((WL W).drop (k * 2))[0]? = (WL W)[k * 2 + 0]? := List.getElem?_drop
  rw [← e, this, List.drop_eq_getElem_cons h]; rfl
theorem WL_get1 (W : List WW) (k : Nat) (h : k < W.length) : (WL W)[k * 2 + 1]? = some (W[k]'h).v := by
  have := WL_drop W k
  have e : ((WL W).drop (k * 2))[1]? = (WL W)[k * 2 + 1]? := List.getElem?_drop
  rw [← e, this, List.drop_eq_getElem_cons h]; rfl
theorem WL_append (V W : List WW) : WL (V ++ W) = WL V ++ WL W := by simp [WL]
theorem WT_append (V W : List WW) : WT (V ++ W) = WT V ++ WT W := by simp [WT]
theorem WT_mem (W : List WW) (k : Nat) (h : k < W.length) : ((W[k]'h).v, (W[k]'h).b.length, B8 (W[k]'h).b) ∈ WT W := List.mem_map.2 ⟨_, List.getElem_mem h, rfl⟩
/-- each waits for a sector that is there, and has 64 bytes -/
def WOk (N : Nat) (W : List WW) : Prop := ∀ x ∈ W, x.i * 64 + 64 ≤ N ∧ x.b.length = 64
theorem WOk.nil (N : Nat) : WOk N [] := fun x hx => by simp at hx
theorem WOk.get {N : Nat} {W : List WW} (h : WOk N W) {k : Nat} (hk : k < W.length) : (W[k]'hk).i * 64 + 64 ≤ N ∧ (W[k]'hk).b.length = 64 := h _ (List.getElem_mem hk)
theorem WOk.add {N : Nat} {W : List WW} (h : WOk N W) {i : Nat} {v : Value} {b : List UInt8} (hi : i * 64 + 64 ≤ N) (hb : b.length = 64) : WOk N (W ++ [⟨i, v, b⟩]) := fun x hx => by
  rcases List.mem_append.1 hx with hx | hx
  · exact h x hx
  · simp at hx; subst hx; exact ⟨hi, hb⟩
/-- may: the error -/
def mayE (off : Bool) (N : Nat) (i : Int) : Nat := if off then 2 else if i < 0 ∨ ((N / 64 : Nat) : Int) ≤ i then 1 else 0
/-- put bytes at a place -/
def putAt (A : List UInt8) (at_ : Nat) (b : List UInt8) : List UInt8 := A.take at_ ++ b ++ A.drop (at_ + b.length)
theorem putAt_length (A : List UInt8) (at_ : Nat) (b : List UInt8) (h : at_ + b.length ≤ A.length) : (putAt A at_ b).length = A.length := by simp [putAt]; omega
/-- the last write that waits for a sector, of the first k -/
def lastW (W : List WW) (i : Int) : Nat → Option (List UInt8)
  | 0 => none
  | k + 1 => match W[k]? with
    | some x => if (x.i : Int) = i then some x.b else lastW W i k
    | none => lastW W i k
theorem lastW_hit {W : List WW} {i : Int} {k : Nat} (h : k < W.length) (e : ((W[k]'h).i : Int) = i) : lastW W i (k + 1) = some (W[k]'h).b := by
  rw [lastW, List.getElem?_eq_getElem h]; simp [e]
theorem lastW_miss {W : List WW} {i : Int} {k : Nat} (h : k < W.length) (e : ¬ ((W[k]'h).i : Int) = i) : lastW W i (k + 1) = lastW W i k := by
  rw [lastW, List.getElem?_eq_getElem h]; simp [e]
def readM (A : List UInt8) (W : List WW) (i : Int) : List UInt8 := (lastW W i W.length).getD ((A.drop (i.toNat * 64)).take 64)
/-- all that waits is done -/
def flushM (A : List UInt8) (W : List WW) : List UInt8 := W.foldl (fun A x => putAt A (x.i * 64) x.b) A
theorem flush_length {N : Nat} : ∀ (W : List WW) (A : List UInt8), WOk N W → A.length = N → (flushM A W).length = N
  | [], A, _, h => h
  | x :: W, A, hW, h => by
    have hx := hW x (List.mem_cons_self ..)
    exact flush_length W _ (fun y hy => hW y (List.mem_cons_of_mem _ hy)) (by rw [putAt_length _ _ _ (by omega), h])
/-- one write by its fate, of the first k parts -/
def keepTo (A : List UInt8) (i : Nat) (b : List UInt8) (atoms : UInt8) : Nat → List UInt8
  | 0 => A
  | k + 1 => if bit8' atoms k then putAt (keepTo A i b atoms k) (i * 64 + k * 8) ((b.drop (k * 8)).take 8) else keepTo A i b atoms k
where bit8' (x : UInt8) (j : Nat) : Bool := decide (Go.bits .and .u8 ((x.toNat : Int) / 2 ^ min (((j : Nat) : Int)).toNat IntKind.u8.bits) 1 = 1)
def keepM (A : List UInt8) (i : Nat) (b : List UInt8) (f : Bool × UInt8) : List UInt8 := if f.1 then keepTo A i b f.2 8 else A
def crashTo (A : List UInt8) (W : List WW) (F : List (Bool × UInt8)) : Nat → List UInt8
  | 0 => A
  | k + 1 => match W[k]?, F[k]? with
    | some x, some f => keepM (crashTo A W F k) x.i x.b f
    | _, _ => crashTo A W F k
def crashM (A : List UInt8) (W : List WW) (F : List (Bool × UInt8)) : List UInt8 := crashTo A W F W.length
end Go.Proofs.YtcglabmlhljkmaaGreat
end
section
/- disk: what its small functions answer. -/
namespace Go.Proofs.YtcglabmlhljkmaaGreat
open Go Go.RowKit Go.Gv
set_option linter.unusedVariables false
set_option linter.unusedSimpArgs false

theorem B8_len1 (l : List UInt8) : (B8 l).length = l.length * 1 := by rw [B8_length, Nat.mul_one]
set_option maxHeartbeats 1000000 in
theorem bytes_Clone (v : Value) (l : List UInt8) (hb : l.length ≤ 1000000) : SpecR Tryz.prog 86 #[v] (fun w => RdW w v l.length (B8 l)) (fun r H' => H' = [own 5 1 r l.length (B8 l)]) := by
  refine SpecR.of (fun w hr => ?_)
  refine Calls.enter Tryz.func86 rfl rfl rfl (St.rebase w) ?_
  simp only [argSlots]
  refine Ws ?_
  refine ZoeqlSN ?_ (hr := by exact rdw_ex Wp hr)
  intro b hbl
  cases b
  · refine Ws ?_
    (refine Zli (ys := []) ?_; intro vr)
    refine Ws ?_
    refine Zap ?_ (hr := by exact rdw_ex Wp hr) (hl := by exact B8_len1 l) (h1 := by exact B8_one l)
    intro v'
    refine Ws ?_
    ((with_reducible apply Tri.eqA (A := own 5 1 v' _ _) (B := own 5 1 v' l.length (B8 l))); (case p => (first | ((repeat (first | with_reducible exact Pull.head | with_reducible apply Pull.tail)); done) | (repeat (first | exact Pull.head | apply Pull.tail)))); (case e => (rw [Nat.zero_add, List.nil_append])))
    refine Zfn [own 5 1 v' l.length (B8 l)] (hq := ?_)
    simp only [tupled]
  · have hl : l = [] := by
      have := hbl rfl
      cases l with
      | nil => rfl
      | cons x l => simp [B8] at this
    subst hl
    refine Ws ?_
    (with_reducible apply Tri.ownNil 5 1)
    refine Zfn [own 5 1 (.slice none 0 0) 0 []] (hq := ?_)
    rfl

set_option maxHeartbeats 1000000 in
theorem disk_may (p a : Nat) (N : Nat) (vw : Value) (off : Bool) (till i : Int) (hN : N ≤ 1000000) : Gv.Spec Tryz.prog 169 #[.pointer (some ⟨p, 0, none⟩), .int .i64 i] [blk p 153 [.slice (some ⟨a, 0, none⟩) N N, vw, .bool off, .int .i64 till]]
    (fun r H' => r = .int .i64 (mayE off N i : Int) ∧ H' = [blk p 153 [.slice (some ⟨a, 0, none⟩) N N, vw, .bool off, .int .i64 till]]) := by
  refine Gv.Spec.of (fun w h0 hw => ?_)
  refine Calls.enter Tryz.func169 rfl rfl rfl hw ?_
  simp only [argSlots]
  refine Wap ?_
  refine Ws ?_
  refine Zz 5 false ?_
  refine Ws ?_
  (refine Wcb ?_ ?_ <;> intro h1)
  · refine Ws ?_
    refine Zfn [blk p 153 [.slice (some ⟨a, 0, none⟩) N N, vw, .bool off, .int .i64 till]] (hq := ?_)
    exact ⟨by rw [mayE, h1]; rfl, rfl⟩
  · refine Ws ?_
    (refine ZcB 16 ?_ ?_ <;> intro h2)
    · have h2' := of_decide_eq_true h2
      refine Ws ?_
      refine Zfn [blk p 153 [.slice (some ⟨a, 0, none⟩) N N, vw, .bool off, .int .i64 till]] (hq := ?_)
      exact ⟨by rw [mayE, h1, if_neg (by simp), if_pos (.inl h2')]; rfl, rfl⟩
    · have h2' := of_decide_eq_false h2
      refine Ws ?_
      (refine Wcd ?_ ?_ <;> intro h3)
      · refine Ws ?_
        refine Zfn [blk p 153 [.slice (some ⟨a, 0, none⟩) N N, vw, .bool off, .int .i64 till]] (hq := ?_)
        exact ⟨by rw [mayE, h1, if_neg (by simp), if_pos (.inr (by omega))]; rfl, rfl⟩
      · refine Ws ?_
        refine Zfn [blk p 153 [.slice (some ⟨a, 0, none⟩) N N, vw, .bool off, .int .i64 till]] (hq := ?_)
        exact ⟨by rw [mayE, h1, if_neg (by simp), if_neg (by omega)]; rfl, rfl⟩

set_option maxHeartbeats 1000000 in
theorem disk_sector (p a : Nat) (N i : Nat) (vw : Value) (off : Bool) (till : Int) (hN : N ≤ 1000000) (hi : i * 64 + 64 ≤ N) : Gv.Spec Tryz.prog 125 #[.pointer (some ⟨p, 0, none⟩), .int .i64 (i : Int)] [blk p 153 [.slice (some ⟨a, 0, none⟩) N N, vw, .bool off, .int .i64 till]]
    (fun r H' => r = .slice (some ⟨a, i * 64, none⟩) 64 (N - i * 64) ∧ H' = [blk p 153 [.slice (some ⟨a, 0, none⟩) N N, vw, .bool off, .int .i64 till]]) := by
  refine Gv.Spec.of (fun w h0 hw => ?_)
  refine Calls.enter Tryz.func125 rfl rfl rfl hw ?_
  simp only [argSlots]
  refine Wap ?_
  refine Ws ?_
  refine Zi 10 ((i * 64 : Nat) : Int) ?_ (hi := by omega)
  refine Zi 13 ((i * 64 + 64 : Nat) : Int) ?_ (hi := by omega)
  refine ZosliceB (lo := i * 64) (hi := i * 64 + 64) ?_ (hne := by omega)
  refine Ws ?_
  refine Zfn [blk p 153 [.slice (some ⟨a, 0, none⟩) N N, vw, .bool off, .int .i64 till]] (hq := ?_)
  refine ⟨?_, rfl⟩
  simp only [tupled]
  congr 1
  · congr 1; congr 1; omega
  · omega

/-- does power go? what is till then? -/
def stopB (till : Int) : Bool := decide (till = 0)
def stopT (till : Int) : Int := if till = 0 then -1 else max (till - 1) (-1)
set_option maxHeartbeats 1000000 in
theorem disk_stops (p : Nat) (va vw : Value) (off : Bool) (till : Int) (ht : -1 ≤ till ∧ till ≤ 9223372036854775807) : Gv.Spec Tryz.prog 124 #[.pointer (some ⟨p, 0, none⟩)] [blk p 153 [va, vw, .bool off, .int .i64 till]]
    (fun r H' => r = .bool (stopB till) ∧ H' = [blk p 153 [va, vw, .bool (off || stopB till), .int .i64 (stopT till)]]) := by
  refine Gv.Spec.of (fun w h0 hw => ?_)
  refine Calls.enter Tryz.func124 rfl rfl rfl hw ?_
  simp only [argSlots]
  refine Wap ?_
  refine Ws ?_
  (refine Wcd ?_ ?_ <;> intro h1)
  · refine Ws ?_
    refine ZS ?_ (hi := by show 2 < 4; omega)
    refine Ws ?_
    refine ZS ?_ (hi := by show 3 < 4; omega)
    refine Ws ?_
    refine Zfn [blk p 153 [va, vw, .bool true, .int .i64 (-1)]] (hq := ?_)
    exact ⟨by rw [stopB, decide_eq_true h1]; rfl, by rw [stopB, stopT, if_pos h1, decide_eq_true h1, Bool.or_true]⟩
  · refine Ws ?_
    refine ZS ?_ (hi := by show 3 < 4; omega)
    refine Ws ?_
    refine Zfn [blk p 153 [va, vw, .bool off, .int .i64 (max (till - 1) (-1))]] (hq := ?_)
    exact ⟨by rw [stopB, decide_eq_false h1]; rfl, by rw [stopB, stopT, if_neg h1, decide_eq_false h1, Bool.or_false]⟩

end Go.Proofs.YtcglabmlhljkmaaGreat
end
section
/- A disk by what it says: its image, what waits, and all of it in one (plain terms). -/
namespace Go.Proofs.YtcglabmlhljkmaaGreat
open Go Go.RowKit Go.Gv
set_option linter.unusedVariables false
set_option linter.unusedSimpArgs false

/-- a disk: what stays, what waits, is it off, when it falls -/
structure DS where
  A : List UInt8
  W : List (Nat × List UInt8)
  off : Bool
  till : Int
def WP2 (W : List WW) : List (Nat × List UInt8) := W.map fun x => (x.i, x.b)
/-- all that waits done -/
def flW (A : List UInt8) (W : List (Nat × List UInt8)) : List UInt8 := W.foldl (fun A x => putAt A (x.1 * 64) x.2) A
def DS.V (S : DS) : List UInt8 := flW S.A S.W
def DS.ok (S : DS) : Prop := S.A.length ≤ 1000000 ∧ (-1 ≤ S.till ∧ S.till ≤ 9223372036854775807) ∧ ∀ x ∈ S.W, x.1 * 64 + 64 ≤ S.A.length ∧ x.2.length = 64
theorem flW_WP (A : List UInt8) (W : List WW) : flW A (WP2 W) = flushM A W := by
  unfold flW WP2 flushM
  rw [List.foldl_map]
theorem flW_length : ∀ (W : List (Nat × List UInt8)) (A : List UInt8), (∀ x ∈ W, x.1 * 64 + 64 ≤ A.length ∧ x.2.length = 64) → (flW A W).length = A.length
  | [], A, _ => rfl
  | x :: W, A, h => by
    have hx := h x (List.mem_cons_self ..)
    have hl := putAt_length A (x.1 * 64) x.2 (by omega)
    show (flW (putAt A (x.1 * 64) x.2) W).length = _
    rw [flW_length W _ (fun y hy => by rw [hl]; exact h y (List.mem_cons_of_mem _ hy)), hl]
theorem DS.V_length {S : DS} (h : S.ok) : S.V.length = S.A.length := flW_length _ _ h.2.2
theorem flW_append (A : List UInt8) (W W' : List (Nat × List UInt8)) : flW A (W ++ W') = flW (flW A W) W' := by unfold flW; rw [List.foldl_append]
/-- a sector -/
def sec (V : List UInt8) (i : Nat) : List UInt8 := (V.drop (i * 64)).take 64
theorem sec_put_same (A : List UInt8) (i : Nat) (b : List UInt8) (hi : i * 64 + 64 ≤ A.length) (hb : b.length = 64) : sec (putAt A (i * 64) b) i = b := by
  unfold sec putAt
  rw [List.append_assoc, List.drop_append_of_le_length (by rw [List.length_take]; omega), List.drop_of_length_le (by rw [List.length_take]; omega), List.nil_append, List.take_left' hb]
theorem sec_put_other (A : List UInt8) (i j : Nat) (b : List UInt8) (hi : i * 64 + 64 ≤ A.length) (hb : b.length = 64) (hj : j ≠ i) : sec (putAt A (i * 64) b) j = sec A j := by
  unfold sec
  apply List.ext_getElem?
  intro k
  rw [List.getElem?_take, List.getElem?_take]
  split
  · rename_i hk
    rw [List.getElem?_drop, List.getElem?_drop]
    unfold putAt
    have hlt : (A.take (i * 64)).length = i * 64 := by rw [List.length_take]; omega
    by_cases hji : j < i
    · have : j * 64 + k < i * 64 := by
        have : (j + 1) * 64 ≤ i * 64 := Nat.mul_le_mul_right 64 hji
        omega
      rw [List.append_assoc, List.getElem?_append_left (by omega), List.getElem?_take, if_pos this]
    · have : i * 64 + 64 ≤ j * 64 + k := by
        have : (i + 1) * 64 ≤ j * 64 := Nat.mul_le_mul_right 64 (by omega)
        omega
      rw [List.getElem?_append_right (by rw [List.length_append]; omega), List.getElem?_drop, List.length_append, hlt, hb]
      congr 1; omega
  · rfl
theorem lastW_sec {N : Nat} : ∀ (k : Nat) (W : List WW) (A : List UInt8), A.length = N → (∀ x ∈ W, x.i * 64 + 64 ≤ N ∧ x.b.length = 64) → ∀ i : Nat, k ≤ W.length → (lastW W (i : Int) k).getD (sec A i) = sec (flushM A (W.take k)) i
  | 0, W, A, _, _, i, _ => rfl
  | k + 1, W, A, hA, hW, i, hk => by
    have hlt : k < W.length := by omega
    have hx := hW _ (List.getElem_mem hlt)
    have hfl : (flushM A (W.take k)).length = N := flush_length _ _ (fun y hy => hW y (List.mem_of_mem_take hy)) hA
    have ht : flushM A (W.take (k + 1)) = putAt (flushM A (W.take k)) ((W[k]'hlt).i * 64) (W[k]'hlt).b := by
      rw [flushM, List.take_succ_eq_append_getElem hlt, List.foldl_append]; rfl
    rw [ht]
    by_cases e : (W[k]'hlt).i = i
    · rw [lastW_hit hlt (by omega), ← e, sec_put_same _ _ _ (by omega) hx.2]; rfl
    · rw [lastW_miss hlt (by omega), sec_put_other _ _ _ _ (by omega) hx.2 (by omega)]
      exact lastW_sec k W A hA hW i (by omega)
theorem readM_sec {A : List UInt8} {W : List WW} (hW : WOk A.length W) (i : Nat) : readM A W (i : Int) = sec (flushM A W) i := by
  have := lastW_sec W.length W A rfl hW i (Nat.le_refl _)
  rw [List.take_length] at this
  rw [← this]; rfl
/-- a write: the disk behind it, and the error -/
def DS.wr (S : DS) (i : Int) (b : List UInt8) : DS × Nat :=
  if mayE S.off S.A.length i ≠ 0 then (S, mayE S.off S.A.length i) else if b.length ≠ 64 then (S, 1) else if S.till = 0 then ({ S with off := true, till := -1 }, 2) else ({ S with W := S.W ++ [(i.toNat, b)], till := stopT S.till }, 0)
/-- sector by sector, up to an error -/
def DS.wrs (S : DS) (i : Int) : List (List UInt8) → DS × Nat
  | [] => (S, 0)
  | b :: bs => if (S.wr i b).2 = 0 then (S.wr i b).1.wrs (i + 1) bs else S.wr i b
theorem mayD_ok {off : Bool} {N : Nat} {i : Int} (h : mayE off N i = 0) : off = false ∧ 0 ≤ i ∧ i.toNat * 64 + 64 ≤ N := by
  unfold mayE at h
  cases off
  · simp only [Bool.false_eq_true, if_false] at h
    split at h
    · cases h
    · exact ⟨rfl, by omega, by omega⟩
  · simp at h
theorem mayD_of {N i : Nat} (h : i * 64 + 64 ≤ N) : mayE false N (i : Int) = 0 := by
  unfold mayE
  rw [if_neg (by simp), if_neg (by omega)]
theorem DS.wr_ok {S : DS} (h : S.ok) (i : Int) (b : List UInt8) : (S.wr i b).1.ok := by
  unfold DS.wr
  split
  · exact h
  · rename_i hm
    obtain ⟨_, h1, h2⟩ := mayD_ok (Classical.byContradiction hm)
    split
    · exact h
    · split
      · exact ⟨h.1, by simp, h.2.2⟩
      · refine ⟨h.1, ?_, fun x hx => ?_⟩
        · have := h.2.1
          show -1 ≤ stopT S.till ∧ stopT S.till ≤ 9223372036854775807
          unfold stopT; split <;> omega
        · rcases List.mem_append.1 hx with hx | hx
          · exact h.2.2 x hx
          · simp at hx; subst hx; exact ⟨h2, by show b.length = 64; omega⟩
theorem DS.wr_len (S : DS) (i : Int) (b : List UInt8) : (S.wr i b).1.W.length ≤ S.W.length + 1 ∧ (S.wr i b).1.A = S.A := by
  unfold DS.wr
  repeat' split
  all_goals simp
theorem DS.wrs_snoc : ∀ (bs : List (List UInt8)) (S : DS) (i : Int) (b : List UInt8), (S.wrs i bs).2 = 0 → S.wrs i (bs ++ [b]) = (S.wrs i bs).1.wr (i + bs.length) b
  | [], S, i, b, _ => by
    show (if (S.wr i b).2 = 0 then ((S.wr i b).1, 0) else S.wr i b) = S.wr (i + 0) b
    rw [Int.add_zero]
    split
    · rename_i h; rw [← h]
    · rfl
  | c :: bs, S, i, b, h => by
    show (if (S.wr i c).2 = 0 then (S.wr i c).1.wrs (i + 1) (bs ++ [b]) else S.wr i c) = _
    have hu : S.wrs i (c :: bs) = if (S.wr i c).2 = 0 then (S.wr i c).1.wrs (i + 1) bs else S.wr i c := rfl
    rw [hu] at h ⊢
    by_cases hc : (S.wr i c).2 = 0
    · rw [if_pos hc] at h ⊢
      rw [if_pos hc, DS.wrs_snoc bs _ _ b h]
      congr 1
      rw [List.length_cons]; omega
    · rw [if_neg hc] at h
      exact absurd h hc
/-- where one is an error the rest is not done -/
theorem DS.wrs_stop : ∀ (bs cs : List (List UInt8)) (S : DS) (i : Int), (S.wrs i bs).2 ≠ 0 → S.wrs i (bs ++ cs) = S.wrs i bs
  | [], _, _, _, h => absurd rfl h
  | b :: bs, cs, S, i, h => by
    show (if (S.wr i b).2 = 0 then (S.wr i b).1.wrs (i + 1) (bs ++ cs) else S.wr i b) = if (S.wr i b).2 = 0 then (S.wr i b).1.wrs (i + 1) bs else S.wr i b
    have hu : S.wrs i (b :: bs) = if (S.wr i b).2 = 0 then (S.wr i b).1.wrs (i + 1) bs else S.wr i b := rfl
    rw [hu] at h
    by_cases hc : (S.wr i b).2 = 0
    · rw [if_pos hc] at h ⊢
      rw [if_pos hc]; exact DS.wrs_stop bs cs _ _ h
    · rw [if_neg hc, if_neg hc]
theorem putAt_putAt (A : List UInt8) (i : Nat) (b c : List UInt8) (h : i ≤ A.length) : putAt (putAt A i b) (i + b.length) c = putAt A i (b ++ c) := by
  have hl : (A.take i ++ b).length = i + b.length := by rw [List.length_append, List.length_take]; omega
  unfold putAt
  rw [List.take_left' hl, List.drop_append, hl, List.drop_of_length_le (by omega), List.nil_append, show i + b.length + c.length - (i + b.length) = c.length by omega, List.drop_drop, List.length_append]
  simp [Nat.add_assoc]
theorem DS.wrs_ok : ∀ (bs : List (List UInt8)) {S : DS} (i : Int), S.ok → (S.wrs i bs).1.ok
  | [], _, _, h => h
  | b :: bs, S, i, h => by
    show (if (S.wr i b).2 = 0 then (S.wr i b).1.wrs (i + 1) bs else S.wr i b).1.ok
    split
    · exact DS.wrs_ok bs _ (DS.wr_ok h i b)
    · exact DS.wr_ok h i b
theorem DS.wrs_len : ∀ (bs : List (List UInt8)) (S : DS) (i : Int), (S.wrs i bs).1.W.length ≤ S.W.length + bs.length ∧ (S.wrs i bs).1.A = S.A
  | [], S, _ => ⟨Nat.le_refl _, rfl⟩
  | b :: bs, S, i => by
    have h1 := DS.wr_len S i b
    show (if (S.wr i b).2 = 0 then (S.wr i b).1.wrs (i + 1) bs else S.wr i b).1.W.length ≤ _ ∧ (if (S.wr i b).2 = 0 then (S.wr i b).1.wrs (i + 1) bs else S.wr i b).1.A = _
    split
    · have h2 := DS.wrs_len bs (S.wr i b).1 (i + 1)
      rw [List.length_cons]
      exact ⟨by omega, by rw [h2.2, h1.2]⟩
    · rw [List.length_cons]
      exact ⟨by omega, h1.2⟩
/-- bytes in pieces of a sector -/
def secs (b : List UInt8) (k : Nat) : List (List UInt8) := (List.range k).map (fun j => sec b j)
theorem secs_length (b : List UInt8) (k : Nat) : (secs b k).length = k := by simp [secs]
theorem secs_succ (b : List UInt8) (k : Nat) : secs b (k + 1) = secs b k ++ [sec b k] := by simp [secs, List.range_succ]
theorem sec_length {b : List UInt8} {j : Nat} (h : j * 64 + 64 ≤ b.length) : (sec b j).length = 64 := by simp [sec]; omega
/-- all of a text written where there is room, with power: what is said then -/
theorem DS.wrs_V {S : DS} (h : S.ok) (i : Nat) (b : List UInt8) (ho : S.off = false) (ht : S.till = -1) : ∀ k, i * 64 + k * 64 ≤ S.A.length → k * 64 ≤ b.length →
    (S.wrs (i : Int) (secs b k)).2 = 0 ∧ (S.wrs (i : Int) (secs b k)).1.off = false ∧ (S.wrs (i : Int) (secs b k)).1.till = -1 ∧ (S.wrs (i : Int) (secs b k)).1.V = putAt S.V (i * 64) (b.take (k * 64))
  | 0, _, _ => by
    refine ⟨rfl, ho, ht, ?_⟩
    show S.V = putAt S.V (i * 64) (b.take (0 * 64))
    simp [putAt]
  | k + 1, h1, h2 => by
    obtain ⟨g1, g2, g3, g4⟩ := DS.wrs_V h i b ho ht k (by omega) (by omega)
    have hok := DS.wrs_ok (secs b k) (i : Int) h
    have hA := (DS.wrs_len (secs b k) S (i : Int)).2
    have hl := sec_length (b := b) (j := k) (by omega)
    have hVl := DS.V_length h
    rw [secs_succ, DS.wrs_snoc _ _ _ _ g1, secs_length]
    have hm : mayE (S.wrs (i : Int) (secs b k)).1.off (S.wrs (i : Int) (secs b k)).1.A.length ((i : Int) + (k : Int)) = 0 := by
      rw [g2, hA]; exact mayD_of (i := i + k) (by omega)
    unfold DS.wr
    rw [if_neg (by rw [hm]; simp), if_neg (by omega), if_neg (by rw [g3]; decide)]
    refine ⟨rfl, g2, by show stopT _ = _; rw [g3]; rfl, ?_⟩
    show flW _ (_ ++ [_]) = _
    rw [flW_append]
    show putAt (S.wrs (i : Int) (secs b k)).1.V (((i : Int) + (k : Int)).toNat * 64) (sec b k) = _
    rw [g4, show ((i : Int) + (k : Int)).toNat = i + k by omega]
    have ht : (b.take (k * 64)).length = k * 64 := by rw [List.length_take]; omega
    have e : b.take ((k + 1) * 64) = b.take (k * 64) ++ sec b k := by
      rw [show (k + 1) * 64 = k * 64 + 64 by omega, List.take_add]; rfl
    have hp : (S.V.take (i * 64)).length = i * 64 := by rw [List.length_take]; omega
    have hq := putAt_putAt S.V (i * 64) (b.take (k * 64)) (sec b k) (by omega)
    rw [ht] at hq
    rw [e, show (i + k) * 64 = i * 64 + k * 64 by omega, hq]
end Go.Proofs.YtcglabmlhljkmaaGreat
end
section
/- disk: New, and what is told of a disk. -/
namespace Go.Proofs.YtcglabmlhljkmaaGreat
open Go Go.RowKit Go.Gv
set_option linter.unusedVariables false
set_option linter.unusedSimpArgs false

set_option maxHeartbeats 1000000 in
theorem disk_New (k : Nat) (h : 8 ≤ k ∧ k ≤ 512) : SpecR Tryz.prog 28 #[.int .i64 (k : Int)] (fun _ => True) (fun r H' => ∃ p a, r = .tuple #[.pointer (some ⟨p, 0, none⟩), .int .i64 0] ∧ H' = [blk p 153 [.slice (some ⟨a, 0, none⟩) (List.replicate (k * 256) (0 : UInt8)).length (List.replicate (k * 256) (0 : UInt8)).length, (.slice none 0 0), .bool false, .int .i64 (-1)], blk a 5 (B8 (List.replicate (k * 256) (0 : UInt8))), own 186 2 (.slice none 0 0) (([] : List WW)).length (WL (([] : List WW))), manyRd (WT (([] : List WW)))]) := by
  refine SpecR.of (fun w _ => ?_)
  refine Calls.enter Tryz.func28 rfl rfl rfl (St.rebase w) ?_
  simp only [argSlots]
  refine Ws ?_
  (refine ZcB 6 ?_ ?_ <;> intro h1)
  · exact absurd (of_decide_eq_true h1) (by omega)
  · refine Ws ?_
    (refine Wcd ?_ ?_ <;> intro h2)
    · omega
    · refine Ws ?_
      refine Zomake1 (m := k * 256) ?_ (hj := by omega)
      intro a
      refine Ws ?_
      refine Zbu ?_
      refine Ws ?_
      (refine Wbx ?_; intro p)
      refine Ws ?_
      have e : (List.replicate (k * 256) (0 : UInt8)).length = k * 256 := List.length_replicate
      refine Zat (blk p _ _) (blk p 153 [.slice (some ⟨a, 0, none⟩) (List.replicate (k * 256) (0 : UInt8)).length (List.replicate (k * 256) (0 : UInt8)).length, .slice none 0 0, .bool false, .int .i64 (-1)]) ?_ (e := by rw [e]; rfl)
      refine Zat (blk a _ _) (blk a 5 (B8 (List.replicate (k * 256) 0))) ?_ (e := by rw [B8, List.map_replicate]; rfl)
      (with_reducible apply Tri.ownNil 186 2)
      refine Zat (own 186 2 (.slice none 0 0) 0 []) (own 186 2 (.slice none 0 0) ([] : List WW).length (WL ([] : List WW))) ?_
      (refine Tri.pure_ (A := manyRd (WT [])) manyRd_nil ?_)
      refine Zfn [blk p 153 [.slice (some ⟨a, 0, none⟩) (List.replicate (k * 256) (0 : UInt8)).length (List.replicate (k * 256) (0 : UInt8)).length, (.slice none 0 0), .bool false, .int .i64 (-1)], blk a 5 (B8 (List.replicate (k * 256) (0 : UInt8))), own 186 2 (.slice none 0 0) (([] : List WW)).length (WL (([] : List WW))), manyRd (WT (([] : List WW)))] (hq := ?_)
      exact ⟨p, a, rfl, rfl⟩

set_option maxHeartbeats 1000000 in
theorem disk_Pages (p a N : Nat) (vw : Value) (off : Bool) (till : Int) (hN : N ≤ 1000000) : Gv.Spec Tryz.prog 74 #[.pointer (some ⟨p, 0, none⟩)] [blk p 153 [.slice (some ⟨a, 0, none⟩) N N, vw, .bool off, .int .i64 till]]
    (fun r H' => r = .int .i64 ((N / 256 : Nat) : Int) ∧ H' = [blk p 153 [.slice (some ⟨a, 0, none⟩) N N, vw, .bool off, .int .i64 till]]) := by
  refine Gv.Spec.of (fun w h0 hw => ?_)
  refine Calls.enter Tryz.func74 rfl rfl rfl hw ?_
  simp only [argSlots]
  refine Wap ?_
  refine Ws ?_
  refine Zz 4 false ?_
  refine Ws ?_
  refine Zfn [blk p 153 [.slice (some ⟨a, 0, none⟩) N N, vw, .bool off, .int .i64 till]] (hq := ?_)
  exact ⟨by simp only [tupled]; rfl, rfl⟩

end Go.Proofs.YtcglabmlhljkmaaGreat
end
section
/- disk: Write. -/
namespace Go.Proofs.YtcglabmlhljkmaaGreat
open Go Go.RowKit Go.Gv
set_option linter.unusedVariables false
set_option linter.unusedSimpArgs false

theorem mayE_ok {off : Bool} {N : Nat} {i : Int} (h : mayE off N i = 0) : off = false ∧ 0 ≤ i ∧ i * 64 + 64 ≤ N := by
  unfold mayE at h
  split at h
  · cases h
  · rename_i h1
    split at h
    · cases h
    · rename_i h2
      exact ⟨by simpa using h1, by omega, by omega⟩
set_option maxHeartbeats 4000000 in
theorem disk_Write (p a : Nat) (vw : Value) (A : List UInt8) (W : List WW) (off : Bool) (till i : Int) (v : Value) (b : List UInt8) (h1 : PH) (hr : Rd h1 v b.length (B8 b)) (hA : A.length ≤ 1000000) (hWl : W.length ≤ 1000000) (ht : -1 ≤ till ∧ till ≤ 9223372036854775807) :
    Gv.Spec Tryz.prog 129 #[.pointer (some ⟨p, 0, none⟩), .int .i64 i, v] [blk p 153 [.slice (some ⟨a, 0, none⟩) (A).length (A).length, vw, .bool off, .int .i64 till], blk a 5 (B8 (A)), own 186 2 vw (W).length (WL (W)), manyRd (WT (W)), Ex h1]
    (fun r H' => (mayE off A.length i ≠ 0 ∧ r = .int .i64 (mayE off A.length i : Int) ∧ H' = [blk p 153 [.slice (some ⟨a, 0, none⟩) (A).length (A).length, vw, .bool off, .int .i64 till], blk a 5 (B8 (A)), own 186 2 vw (W).length (WL (W)), manyRd (WT (W)), Ex h1])
      ∨ (mayE off A.length i = 0 ∧ b.length ≠ 64 ∧ r = .int .i64 1 ∧ H' = [blk p 153 [.slice (some ⟨a, 0, none⟩) (A).length (A).length, vw, .bool off, .int .i64 till], blk a 5 (B8 (A)), own 186 2 vw (W).length (WL (W)), manyRd (WT (W)), Ex h1])
      ∨ (mayE off A.length i = 0 ∧ b.length = 64 ∧ till = 0 ∧ r = .int .i64 2 ∧ H' = [blk p 153 [.slice (some ⟨a, 0, none⟩) (A).length (A).length, vw, .bool true, .int .i64 (-1)], blk a 5 (B8 (A)), own 186 2 vw (W).length (WL (W)), manyRd (WT (W)), Ex h1])
      ∨ (mayE off A.length i = 0 ∧ b.length = 64 ∧ till ≠ 0 ∧ r = .int .i64 0 ∧ ∃ vw' vc, H' = [blk p 153 [.slice (some ⟨a, 0, none⟩) (A).length (A).length, vw', .bool off, .int .i64 (stopT till)], blk a 5 (B8 (A)), own 186 2 vw' (W ++ [(⟨i.toNat, vc, b⟩ : WW)]).length (WL (W ++ [(⟨i.toNat, vc, b⟩ : WW)])), manyRd (WT (W ++ [(⟨i.toNat, vc, b⟩ : WW)])), Ex h1])) := by
  refine Gv.Spec.of (fun w h0 hw => ?_)
  refine Calls.enter Tryz.func129 rfl rfl rfl hw ?_
  simp only [argSlots]
  refine Wap ?_
  refine Ws ?_
  refine Zd (disk_may p a A.length vw off till i hA) ?_
  refine Ws ?_
  (refine Wcd ?_ ?_ <;> intro hm)
  · refine Ws ?_
    refine Zfn [blk p 153 [.slice (some ⟨a, 0, none⟩) (A).length (A).length, vw, .bool off, .int .i64 till], blk a 5 (B8 (A)), own 186 2 vw (W).length (WL (W)), manyRd (WT (W)), Ex h1] (hq := ?_)
    exact .inl ⟨by omega, rfl, rfl⟩
  · have hm0 : mayE off A.length i = 0 := by omega
    have hmo := mayE_ok hm0
    obtain ⟨I, rfl⟩ : ∃ I : Nat, i = (I : Int) := ⟨i.toNat, by omega⟩
    refine Ws ?_
    refine Zlr2 (hr := hr) ?_
    refine Ws ?_
    (refine Wcd ?_ ?_ <;> intro hl)
    · refine Ws ?_
      refine Zfn [blk p 153 [.slice (some ⟨a, 0, none⟩) (A).length (A).length, vw, .bool off, .int .i64 till], blk a 5 (B8 (A)), own 186 2 vw (W).length (WL (W)), manyRd (WT (W)), Ex h1] (hq := ?_)
      exact .inr (.inl ⟨hm0, by omega, rfl, rfl⟩)
    · have hl' : b.length = 64 := by omega
      refine Ws ?_
      refine Zd (disk_stops p (.slice (some ⟨a, 0, none⟩) A.length A.length) vw off till ht) ?_
      refine Ws ?_
      (refine Wcb ?_ ?_ <;> intro hs)
      · have hs' : till = 0 := of_decide_eq_true hs
        refine Ws ?_
        refine Zat (blk p _ _) (blk p 153 [.slice (some ⟨a, 0, none⟩) A.length A.length, vw, .bool true, .int .i64 (-1)]) ?_ (e := by rw [hs, Bool.or_true, stopT, if_pos hs'])
        ((first | with_reducible apply Tri.fin | with_reducible apply Tri.finN); (case hr => rfl); (case h => (repeat (first | exact ResL.nil | (apply ResL.cons; (case a => (first | exact Res1.tmp rfl | (apply Res1.cell; rfl; (first | ((repeat (first | with_reducible exact Pull.head | with_reducible apply Pull.tail)); done) | (repeat (first | exact Pull.head | apply Pull.tail))); rfl) | (apply Res1.agg; rfl; (first | ((repeat (first | with_reducible exact Pull.head | with_reducible apply Pull.tail)); done) | (repeat (first | exact Pull.head | apply Pull.tail))); rfl; rfl))))))); (apply fin_R (Hn := [blk p 153 [.slice (some ⟨a, 0, none⟩) (A).length (A).length, vw, .bool true, .int .i64 (-1)], blk a 5 (B8 (A)), own 186 2 vw (W).length (WL (W)), manyRd (WT (W)), Ex h1])); (case p => (repeat (first | exact Pulls.nil | (apply Pulls.cons; (case a => (first | ((repeat (first | with_reducible exact Gv.Pull.head | with_reducible apply Gv.Pull.tail)); done) | (repeat (first | exact Gv.Pull.head | apply Gv.Pull.tail)))))))))
        exact .inr (.inr (.inl ⟨hm0, hl', hs', rfl, rfl⟩))
      · have hs' : till ≠ 0 := of_decide_eq_false hs
        refine Zat (blk p _ _) (blk p 153 [.slice (some ⟨a, 0, none⟩) A.length A.length, vw, .bool off, .int .i64 (stopT till)]) ?_ (e := by rw [hs, Bool.or_false])
        refine Wo ?_
        ((first | with_reducible apply Tri.seqMeet (α := Value × Value) (Lx := fun x => []) (Hx := fun x => [blk p 153 [.slice (some ⟨a, 0, none⟩) (A).length (A).length, x.1, .bool off, .int .i64 (stopT till)], blk a 5 (B8 (A)), own 186 2 x.1 (W ++ [(⟨I, x.2, b⟩ : WW)]).length (WL (W ++ [(⟨I, x.2, b⟩ : WW)])), manyRd (WT (W ++ [(⟨I, x.2, b⟩ : WW)])), Ex h1, Ex h0]) | with_reducible apply TriR.seqMeet (α := Value × Value) (Lx := fun x => []) (Hx := fun x => [blk p 153 [.slice (some ⟨a, 0, none⟩) (A).length (A).length, x.1, .bool off, .int .i64 (stopT till)], blk a 5 (B8 (A)), own 186 2 x.1 (W ++ [(⟨I, x.2, b⟩ : WW)]).length (WL (W ++ [(⟨I, x.2, b⟩ : WW)])), manyRd (WT (W ++ [(⟨I, x.2, b⟩ : WW)])), Ex h1, Ex h0])); rotate_left; (rintro ⟨vw', vc⟩; (try dsimp only)); rotate_left)
        · refine Wm [Ex h1] ?_
          refine Wq [0, 1, 2, 3] ?_
          refine Wq [5, 6] ?_
          refine ZA2 4 7 ?_ ?_
          · refine Zl ?_
            refine Zw ?_
            refine ZA 7 ?_
            refine Zcr (bytes_Clone v b (by omega)) ?_ (hpre := by exact rdw_ex Wp hr)
            rintro vc Hc rfl
            refine Wap ?_
            (refine Tri.shape (e := 5) (size := 1) (v := vc) Wp ?_; rintro ⟨Ac, cc, rfl⟩)
            refine Zw ?_
            refine Zm 8 (h := fun _ _ x => by exact Zbu x) (k := ?_)
            refine ZA 9 ?_
            (refine Zli (ys := [.int .i64 (I : Int), .slice Ac b.length cc]) ?_; intro vl)
            refine Zw ?_
            refine ZA 10 ?_
            refine Zap ?_ (hr := by exact rdw_own Wp) (hl := by rfl) (h1 := by intro y hy; simp at hy; rcases hy with rfl | rfl <;> rfl)
            intro vw'
            (refine Tri.shape (e := 186) (size := 2) (v := vw') Wp ?_; rintro ⟨Aw, cw, rfl⟩)
            refine Zw ?_
            refine Wq [11, 12] ?_
            refine ZA 13 ?_
            refine ZS ?_ (hi := by show 1 < 4; omega)
            refine Zw ?_
            refine ZE ?_
            refine Wo ?_
            (refine Tri.join (e := 5) (v := .slice Ac b.length cc) (l := WT W) Wp Wp ?_)
            refine Zat (manyRd _) (manyRd (WT (W ++ [(⟨I, .slice Ac b.length cc, b⟩ : WW)]))) ?_ (e := by rw [WT_append]; rfl)
            refine Zat (own 186 2 (.slice Aw (W.length + 1) cw) _ _) (own 186 2 (.slice Aw (W.length + 1) cw) (W ++ [(⟨I, .slice Ac b.length cc, b⟩ : WW)]).length (WL (W ++ [(⟨I, .slice Ac b.length cc, b⟩ : WW)]))) ?_ (e := by rw [WL_append, List.length_append]; rfl)
            exact Zrc (.slice Aw (W.length + 1) cw, .slice Ac b.length cc)
          · refine Zcr (bytes_Clone v b (by omega)) ?_ (hpre := by exact rdw_ex Wp hr)
            rintro vc Hc rfl
            refine Wap ?_
            (refine Tri.shape (e := 5) (size := 1) (v := vc) Wp ?_; rintro ⟨Ac, cc, rfl⟩)
            refine Zw ?_
            refine Zm 8 (h := fun _ _ x => by exact Zbu x) (k := ?_)
            refine ZA2 4 9 ?_ ?_
            · refine Zl ?_
              refine Zw ?_
              refine ZA 9 ?_
              (refine Zli (ys := [.int .i64 (I : Int), .slice Ac b.length cc]) ?_; intro vl)
              refine Zw ?_
              refine ZA 10 ?_
              refine Zap ?_ (hr := by exact rdw_own Wp) (hl := by rfl) (h1 := by intro y hy; simp at hy; rcases hy with rfl | rfl <;> rfl)
              intro vw'
              (refine Tri.shape (e := 186) (size := 2) (v := vw') Wp ?_; rintro ⟨Aw, cw, rfl⟩)
              refine Zw ?_
              refine Wq [11, 12] ?_
              refine ZA 13 ?_
              refine ZS ?_ (hi := by show 1 < 4; omega)
              refine Zw ?_
              refine ZE ?_
              refine Wo ?_
              (refine Tri.join (e := 5) (v := .slice Ac b.length cc) (l := WT W) Wp Wp ?_)
              refine Zat (manyRd _) (manyRd (WT (W ++ [(⟨I, .slice Ac b.length cc, b⟩ : WW)]))) ?_ (e := by rw [WT_append]; rfl)
              refine Zat (own 186 2 (.slice Aw (W.length + 1) cw) _ _) (own 186 2 (.slice Aw (W.length + 1) cw) (W ++ [(⟨I, .slice Ac b.length cc, b⟩ : WW)]).length (WL (W ++ [(⟨I, .slice Ac b.length cc, b⟩ : WW)]))) ?_ (e := by rw [WL_append, List.length_append]; rfl)
              exact Zrc (.slice Aw (W.length + 1) cw, .slice Ac b.length cc)
            · (refine Zli (ys := [.int .i64 (I : Int), .slice Ac b.length cc]) ?_; intro vl)
              refine Zw ?_
              refine ZA 4 ?_
              refine Zl ?_
              refine Zw ?_
              refine ZA 10 ?_
              refine Zap ?_ (hr := by exact rdw_own Wp) (hl := by rfl) (h1 := by intro y hy; simp at hy; rcases hy with rfl | rfl <;> rfl)
              intro vw'
              (refine Tri.shape (e := 186) (size := 2) (v := vw') Wp ?_; rintro ⟨Aw, cw, rfl⟩)
              refine Zw ?_
              refine Wq [11, 12] ?_
              refine ZA 13 ?_
              refine ZS ?_ (hi := by show 1 < 4; omega)
              refine Zw ?_
              refine ZE ?_
              refine Wo ?_
              (refine Tri.join (e := 5) (v := .slice Ac b.length cc) (l := WT W) Wp Wp ?_)
              refine Zat (manyRd _) (manyRd (WT (W ++ [(⟨I, .slice Ac b.length cc, b⟩ : WW)]))) ?_ (e := by rw [WT_append]; rfl)
              refine Zat (own 186 2 (.slice Aw (W.length + 1) cw) _ _) (own 186 2 (.slice Aw (W.length + 1) cw) (W ++ [(⟨I, .slice Ac b.length cc, b⟩ : WW)]).length (WL (W ++ [(⟨I, .slice Ac b.length cc, b⟩ : WW)]))) ?_ (e := by rw [WL_append, List.length_append]; rfl)
              exact Zrc (.slice Aw (W.length + 1) cw, .slice Ac b.length cc)
        · refine Ws ?_
          refine Zfn [blk p 153 [.slice (some ⟨a, 0, none⟩) (A).length (A).length, vw', .bool off, .int .i64 (stopT till)], blk a 5 (B8 (A)), own 186 2 vw' (W ++ [(⟨I, vc, b⟩ : WW)]).length (WL (W ++ [(⟨I, vc, b⟩ : WW)])), manyRd (WT (W ++ [(⟨I, vc, b⟩ : WW)])), Ex h1] (hq := ?_)
          exact .inr (.inr (.inr ⟨hm0, hl', hs', rfl, vw', vc, rfl⟩))
end Go.Proofs.YtcglabmlhljkmaaGreat
end
section
/- disk: Read and Flush. -/
namespace Go.Proofs.YtcglabmlhljkmaaGreat
open Go Go.RowKit Go.Gv
set_option linter.unusedVariables false
set_option linter.unusedSimpArgs false

set_option maxHeartbeats 4000000 in
theorem disk_Read (p a : Nat) (vw : Value) (A : List UInt8) (W : List WW) (off : Bool) (till i : Int) (hA : A.length ≤ 1000000) (hW : WOk A.length W) (hWl : W.length ≤ 1000000) :
    Gv.Spec Tryz.prog 171 #[.pointer (some ⟨p, 0, none⟩), .int .i64 i] [blk p 153 [.slice (some ⟨a, 0, none⟩) (A).length (A).length, vw, .bool off, .int .i64 till], blk a 5 (B8 (A)), own 186 2 vw (W).length (WL (W)), manyRd (WT (W))]
    (fun r H' => (mayE off A.length i ≠ 0 ∧ r = .tuple #[.slice none 0 0, .int .i64 (mayE off A.length i : Int)] ∧ H' = [blk p 153 [.slice (some ⟨a, 0, none⟩) (A).length (A).length, vw, .bool off, .int .i64 till], blk a 5 (B8 (A)), own 186 2 vw (W).length (WL (W)), manyRd (WT (W))])
      ∨ (mayE off A.length i = 0 ∧ ∃ v, r = .tuple #[v, .int .i64 0] ∧ H' = [own 5 1 v (readM A W i).length (B8 (readM A W i)), blk p 153 [.slice (some ⟨a, 0, none⟩) (A).length (A).length, vw, .bool off, .int .i64 till], blk a 5 (B8 (A)), own 186 2 vw (W).length (WL (W)), manyRd (WT (W))])) := by
  refine Gv.Spec.of (fun w h0 hw => ?_)
  refine Calls.enter Tryz.func171 rfl rfl rfl hw ?_
  simp only [argSlots]
  refine Wap ?_
  refine Ws ?_
  refine Zd (disk_may p a A.length vw off till i hA) ?_
  refine Ws ?_
  (refine Wcd ?_ ?_ <;> intro hm)
  · refine Ws ?_
    refine Zfn [blk p 153 [.slice (some ⟨a, 0, none⟩) (A).length (A).length, vw, .bool off, .int .i64 till], blk a 5 (B8 (A)), own 186 2 vw (W).length (WL (W)), manyRd (WT (W))] (hq := ?_)
    exact .inl ⟨by omega, rfl, rfl⟩
  · have hm0 : mayE off A.length i = 0 := by omega
    have hmo := mayE_ok hm0
    obtain ⟨I, rfl⟩ : ∃ I : Nat, i = (I : Int) := ⟨i.toNat, by omega⟩
    refine Ws ?_
    (refine Wl (α := { k : Nat // k ≤ W.length ∧ lastW W (I : Int) W.length = lastW W (I : Int) k }) (fun x => x.1) (fun x => [(0, .pointer (some ⟨p, 0, none⟩)), (1, .int .i64 (I : Int)), (7, .int .i64 ((x.1 : Int) - 1))]) (fun x => [blk p 153 [.slice (some ⟨a, 0, none⟩) (A).length (A).length, vw, .bool off, .int .i64 till], blk a 5 (B8 (A)), own 186 2 vw (W).length (WL (W)), manyRd (WT (W)), Ex h0]) ⟨W.length, Nat.le_refl _, rfl⟩ ?_; rintro ⟨k, hk, hl⟩ mx hmx; (try dsimp only at hmx ⊢))
    refine Ws ?_
    (refine Wcd ?_ ?_ <;> intro hc)
    · obtain ⟨j, rfl⟩ : ∃ j, k = j + 1 := ⟨k - 1, by omega⟩
      have hj : j < W.length := by omega
      refine Ws ?_
      refine Zix (j := j) ?_ (hj := by omega) (hlt := by exact hj)
      refine Ws ?_
      refine Zlo ?_ (hv := by exact WL_get0 W j hj)
      refine Ws ?_
      (refine Wcd ?_ ?_ <;> intro hq)
      · refine Ws ?_
        refine Zix (j := j) ?_ (hj := by omega) (hlt := by exact hj)
        refine Ws ?_
        refine Zlo ?_ (hv := by exact WL_get1 W j hj)
        refine Ws ?_
        refine Zcr (bytes_Clone (W[j]'hj).v (W[j]'hj).b (by have := (hW.get hj).2; omega)) ?_ (hpre := by exact rdw_many Wp (WT_mem W j hj))
        rintro v Hc rfl
        refine Wap ?_
        refine Ws ?_
        have e : readM A W (I : Int) = (W[j]'hj).b := by
          rw [readM, hl, lastW_hit hj hq]; rfl
        refine Zat (own 5 1 v _ _) (own 5 1 v (readM A W (I : Int)).length (B8 (readM A W (I : Int)))) ?_ (e := by rw [e])
        refine Zfn [own 5 1 v (readM A W (I : Int)).length (B8 (readM A W (I : Int))), blk p 153 [.slice (some ⟨a, 0, none⟩) (A).length (A).length, vw, .bool off, .int .i64 till], blk a 5 (B8 (A)), own 186 2 vw (W).length (WL (W)), manyRd (WT (W))] (hq := ?_)
        exact .inr ⟨hm0, v, rfl, rfl⟩
      · refine Ws ?_
        refine Zi 7 ((j : Int) - 1) ?_ (hi := by omega)
        exact Zag ⟨j, by omega, by rw [hl, lastW_miss hj hq]⟩
    · obtain rfl : k = 0 := by omega
      have e : readM A W (I : Int) = (A.drop (I * 64)).take 64 := by
        rw [readM, hl]; rfl
      have hel : ((A.drop (I * 64)).take 64).length = 64 := by rw [List.length_take, List.length_drop]; omega
      refine Ws ?_
      refine Zd (disk_sector p a A.length I vw off till hA (by omega)) ?_
      refine Ws ?_
      refine Zcr (bytes_Clone (.slice (some ⟨a, I * 64, none⟩) 64 (A.length - I * 64)) ((A.drop (I * 64)).take 64) (by omega)) ?_ (hpre := by rw [hel]; exact rdw_blkAt Wp ⟨by omega, by omega⟩ (by rw [B8_length, hel, B8, B8, List.map_take, List.map_drop]))
      rintro v Hc rfl
      refine Wap ?_
      refine Ws ?_
      refine Zat (own 5 1 v _ _) (own 5 1 v (readM A W (I : Int)).length (B8 (readM A W (I : Int)))) ?_ (e := by rw [e])
      refine Zfn [own 5 1 v (readM A W (I : Int)).length (B8 (readM A W (I : Int))), blk p 153 [.slice (some ⟨a, 0, none⟩) (A).length (A).length, vw, .bool off, .int .i64 till], blk a 5 (B8 (A)), own 186 2 vw (W).length (WL (W)), manyRd (WT (W))] (hq := ?_)
      exact .inr ⟨hm0, v, rfl, rfl⟩
end Go.Proofs.YtcglabmlhljkmaaGreat
end
section
/- disk: Flush, and what a crash keeps. -/
namespace Go.Proofs.YtcglabmlhljkmaaGreat
open Go Go.RowKit Go.Gv
set_option linter.unusedVariables false
set_option linter.unusedSimpArgs false

theorem WOk.take {N : Nat} {W : List WW} (h : WOk N W) (k : Nat) : WOk N (W.take k) := fun x hx => h x (List.mem_of_mem_take hx)
end Go.Proofs.YtcglabmlhljkmaaGreat
end
section
/- A disk as one atom: what its functions do. -/
namespace Go.Proofs.YtcglabmlhljkmaaGreat
open Go Go.RowKit Go.Gv
set_option linter.unusedVariables false
set_option linter.unusedSimpArgs false

/-- a disk that says S -/
def DSK (p : Nat) (S : DS) : Atom := Gv.exA (fun z : Nat × Value × { W : List WW // WP2 W = S.W } => Gv.star [blk p 153 [.slice (some ⟨z.1, 0, none⟩) (S.A).length (S.A).length, z.2.1, .bool S.off, .int .i64 S.till], blk z.1 5 (B8 (S.A)), own 186 2 z.2.1 (z.2.2.1).length (WL (z.2.2.1)), manyRd (WT (z.2.2.1))])
theorem dsk_open {w0 w : World} {H : List Atom} {p : Nat} {S : DS} (h : St w0 w (DSK p S :: H)) : ∃ a vw W, WP2 W = S.W ∧ St w0 w ([blk p 153 [.slice (some ⟨a, 0, none⟩) (S.A).length (S.A).length, vw, .bool S.off, .int .i64 S.till], blk a 5 (B8 (S.A)), own 186 2 vw (W).length (WL (W)), manyRd (WT (W))] ++ H) := by
  obtain ⟨⟨a, vw, W, hW⟩, h1⟩ := St.exA h
  exact ⟨a, vw, W, hW, St.unstar h1⟩
theorem dsk_close {w0 w : World} {H : List Atom} {p a : Nat} {vw : Value} {W : List WW} {S : DS} (hW : WP2 W = S.W) (h : St w0 w ([blk p 153 [.slice (some ⟨a, 0, none⟩) (S.A).length (S.A).length, vw, .bool S.off, .int .i64 S.till], blk a 5 (B8 (S.A)), own 186 2 vw (W).length (WL (W)), manyRd (WT (W))] ++ H)) : St w0 w (DSK p S :: H) :=
  St.toExA (A := fun z : Nat × Value × { W : List WW // WP2 W = S.W } => Gv.star [blk p 153 [.slice (some ⟨z.1, 0, none⟩) (S.A).length (S.A).length, z.2.1, .bool S.off, .int .i64 S.till], blk z.1 5 (B8 (S.A)), own 186 2 z.2.1 (z.2.2.1).length (WL (z.2.2.1)), manyRd (WT (z.2.2.1))]) (a, vw, ⟨W, hW⟩) (St.star h)
theorem WP2_ok {W : List WW} {S : DS} (h : S.ok) (hW : WP2 W = S.W) : WOk S.A.length W := fun x hx => by
  have := h.2.2 (x.i, x.b) (by rw [← hW]; exact List.mem_map.2 ⟨x, hx, rfl⟩)
  exact this
theorem WP2_len {W : List WW} {S : DS} (hW : WP2 W = S.W) : W.length = S.W.length := by rw [← hW]; simp [WP2]
theorem disk_ReadD (p : Nat) (S : DS) (i : Int) (hS : S.ok) (hl : S.W.length ≤ 1000000) :
    Gv.Spec Tryz.prog 171 #[.pointer (some ⟨p, 0, none⟩), .int .i64 i] [DSK p S]
    (fun r H' => (mayE S.off S.A.length i ≠ 0 ∧ r = .tuple #[.slice none 0 0, .int .i64 (mayE S.off S.A.length i : Int)] ∧ H' = [DSK p S])
      ∨ (mayE S.off S.A.length i = 0 ∧ ∃ v, r = .tuple #[v, .int .i64 0] ∧ H' = [DSK p S, own 5 1 v 64 (B8 (sec S.V i.toNat))])) := fun w0 w H hw => by
  obtain ⟨a, vw, W, hW, h1⟩ := dsk_open hw
  have hWl := WP2_len hW
  refine (disk_Read p a vw S.A W S.off S.till i hS.1 (WP2_ok hS hW) (by omega) w0 w H h1).mono ?_
  intro e w' he
  cases e with
  | returned v =>
    obtain ⟨H', hR, h2⟩ := he
    rcases hR with ⟨hm, hr, rfl⟩ | ⟨hm, u, hr, rfl⟩
    · exact ⟨_, .inl ⟨hm, hr, rfl⟩, dsk_close hW h2⟩
    · obtain ⟨_, hi0, hi1⟩ := mayD_ok hm
      have e1 : readM S.A W i = sec S.V i.toNat := by
        have := readM_sec (WP2_ok hS hW) i.toNat
        rw [show ((i.toNat : Nat) : Int) = i by omega] at this
        rw [this, ← flW_WP, hW]; rfl
      have hVl := DS.V_length hS
      have e2 : (sec S.V i.toNat).length = 64 := sec_length (by omega)
      rw [e1, e2] at h2
      exact ⟨_, .inr ⟨hm, u, hr, rfl⟩, dsk_close hW (St.unrot h2)⟩
  | panicked c => exact he.elim
  | outgrown => exact he.elim
theorem disk_WriteD (p : Nat) (S : DS) (i : Int) (v : Value) (b : List UInt8) (h1 : PH) (hr : Rd h1 v b.length (B8 b)) (hS : S.ok) (hl : S.W.length ≤ 1000000) :
    Gv.Spec Tryz.prog 129 #[.pointer (some ⟨p, 0, none⟩), .int .i64 i, v] [DSK p S, Ex h1]
    (fun r H' => r = .int .i64 ((S.wr i b).2 : Int) ∧ H' = [DSK p (S.wr i b).1, Ex h1]) := fun w0 w H hw => by
  obtain ⟨a, vw, W, hW, h2⟩ := dsk_open hw
  have hWl := WP2_len hW
  refine (disk_Write p a vw S.A W S.off S.till i v b h1 hr hS.1 (by omega) hS.2.1 w0 w H h2).mono ?_
  intro e w' he
  cases e with
  | returned u =>
    obtain ⟨H', hR, h3⟩ := he
    refine ⟨[DSK p (S.wr i b).1, Ex h1], ⟨?_, rfl⟩, ?_⟩
    · rcases hR with ⟨hm, hr, rfl⟩ | ⟨hm, hb, hr, rfl⟩ | ⟨hm, hb, ht, hr, rfl⟩ | ⟨hm, hb, ht, hr, vw', vc, rfl⟩
      · rw [hr, DS.wr, if_pos hm]
      · rw [hr, DS.wr, if_neg (by rw [hm]; simp), if_pos hb]; rfl
      · rw [hr, DS.wr, if_neg (by rw [hm]; simp), if_neg (by rw [hb]; simp), if_pos ht]; rfl
      · rw [hr, DS.wr, if_neg (by rw [hm]; simp), if_neg (by rw [hb]; simp), if_neg ht]; rfl
    · rcases hR with ⟨hm, hr, rfl⟩ | ⟨hm, hb, hr, rfl⟩ | ⟨hm, hb, ht, hr, rfl⟩ | ⟨hm, hb, ht, hr, vw', vc, rfl⟩
      · rw [DS.wr, if_pos hm]; exact dsk_close hW h3
      · rw [DS.wr, if_neg (by rw [hm]; simp), if_pos hb]; exact dsk_close hW h3
      · rw [DS.wr, if_neg (by rw [hm]; simp), if_neg (by rw [hb]; simp), if_pos ht]
        exact dsk_close (S := { S with off := true, till := -1 }) hW h3
      · rw [DS.wr, if_neg (by rw [hm]; simp), if_neg (by rw [hb]; simp), if_neg ht]
        refine dsk_close (S := { S with W := S.W ++ [(i.toNat, b)], till := stopT S.till }) (W := W ++ [⟨i.toNat, vc, b⟩]) (by simp [WP2, ← hW]) h3
  | panicked c => exact he.elim
  | outgrown => exact he.elim
end Go.Proofs.YtcglabmlhljkmaaGreat
end
section
/- page: raw bytes to a disk and back. -/
namespace Go.Proofs.YtcglabmlhljkmaaGreat
open Go Go.RowKit Go.Gv
set_option linter.unusedVariables false
set_option linter.unusedSimpArgs false

/-- bytes up to whole pages -/
def padN (n : Nat) : Nat := (256 - n % 256) % 256
def padB (b : List UInt8) : List UInt8 := b ++ List.replicate (padN b.length) 0
theorem padB_length (b : List UInt8) : (padB b).length = b.length + padN b.length := by simp [padB]
theorem padB_mod (b : List UInt8) : (padB b).length % 256 = 0 := by rw [padB_length]; unfold padN; omega
/-- a disk whose first writes went well -/
structure RwS (S : DS) (i : Int) (b : List UInt8) where
  k : Nat
  hk : k * 64 ≤ b.length
  ok : (S.wrs i (secs b k)).2 = 0
/-- .. and one that went wrong -/
structure RwE (S : DS) (i : Int) (b : List UInt8) where
  k : Nat
  hk : k * 64 + 64 ≤ b.length
  ok : (S.wrs i (secs b k)).2 = 0
  bad : (S.wrs i (secs b (k + 1))).2 ≠ 0
theorem rwE_all {S : DS} {i : Int} {b : List UInt8} (x : RwE S i b) (hm : b.length % 64 = 0) : S.wrs i (secs b (b.length / 64)) = S.wrs i (secs b (x.k + 1)) := by
  have h := x.hk
  have : secs b (b.length / 64) = secs b (x.k + 1) ++ ((List.range (b.length / 64 - (x.k + 1))).map fun j => sec b (x.k + 1 + j)) := by
    have e : b.length / 64 = (x.k + 1) + (b.length / 64 - (x.k + 1)) := by omega
    unfold secs
    conv => lhs; rw [e]
    rw [List.range_add, List.map_append, List.map_map]; rfl
  rw [this, DS.wrs_stop _ _ _ _ x.bad]
theorem rw_step {S : DS} {i : Int} {b : List UInt8} {k : Nat} (ok : (S.wrs i (secs b k)).2 = 0) : S.wrs i (secs b (k + 1)) = (S.wrs i (secs b k)).1.wr (i + k) (sec b k) := by
  rw [secs_succ, DS.wrs_snoc _ _ _ _ ok, secs_length]
theorem rd_part {h : PH} {A : Option Addr} {m c k : Nat} {l : List UInt8} (hr : Rd h (.slice A m c) m (B8 l)) (hl : l.length = m) (hk : k * 64 + 64 ≤ m) : Rd h (.slice (A.map (·.add (k * 64))) 64 64) (sec l k).length (B8 (sec l k)) := by
  have hs := sec_length (b := l) (j := k) (by omega)
  obtain ⟨A', c', hv, hc, h3⟩ := hr
  cases hv
  refine ⟨_, _, by rw [hs], ⟨by rw [hs]; exact Nat.le_refl _, by unfold maxLen; omega⟩, fun j u hu => ?_⟩
  rw [show B8 (sec l k) = ((B8 l).drop (k * 64)).take 64 by simp [sec, B8, List.map_take, List.map_drop], List.getElem?_take] at hu
  split at hu
  · rename_i hj
    rw [List.getElem?_drop] at hu
    obtain ⟨a, rfl, cs, T, fr, g1, g2, g3⟩ := h3 _ u hu
    refine ⟨a.add (k * 64), rfl, cs, T, fr, ?_, ?_, ?_⟩
    · have hb : (a.add (k * 64)).block = a.block := by unfold Addr.add; split <;> rfl
      rw [hb]; exact g1
    · rw [Addr.add_add]; exact g2
    · rw [Addr.add_add]; exact g3
  · cases hu
set_option maxHeartbeats 16000000 in
theorem page_WriteRaw (p : Nat) (S : DS) (addr : Int) (v : Value) (b : List UInt8) (h1 : PH) (hr : Rd h1 v b.length (B8 b)) (hS : S.ok) (hb : b.length ≤ 100000) (hl : S.W.length + b.length ≤ 900000) (ha : -1000000 ≤ addr ∧ addr ≤ 1000000) :
    Gv.Spec Tryz.prog 79 #[.pointer (some ⟨p, 0, none⟩), .int .i64 addr, v] [DSK p S, Ex h1]
    (fun r H' => r = .int .i64 ((S.wrs (addr * 4) (secs (padB b) ((padB b).length / 64))).2 : Int) ∧ H' = [DSK p (S.wrs (addr * 4) (secs (padB b) ((padB b).length / 64))).1, Ex h1]) := by
  refine Gv.Spec.of (fun w h0 hw => ?_)
  refine Calls.enterM Tryz.func79 rfl rfl rfl hw ?_
  simp only [argSlots]
  refine Wap ?_
  refine Ws ?_
  (refine Wbx ?_; intro b3)
  refine Ws ?_
  refine Zal fun b6 => ?_
  refine Ws ?_
  refine Zcr (bytes_Clone v b (by omega)) ?_ (hpre := by exact rdw_ex Wp hr)
  rintro u H' rfl
  refine Wap ?_
  refine Zat (own 5 1 u b.length (B8 b)) (own 5 1 u (b ++ List.replicate 0 0).length (B8 (b ++ List.replicate 0 0))) ?_ (e := by rw [List.replicate_zero, List.append_nil])
  refine Ws ?_
  (refine Wl (α := Σ' (j : Nat) (u : Value), j ≤ padN b.length) (fun x => padN b.length - x.1) (fun x => [(0, .pointer (some ⟨p, 0, none⟩)), (1, .int .i64 addr), (2, x.2.1), (3, .pointer (some ⟨b3, 0, none⟩)), (6, .pointer (some ⟨b6, 0, none⟩))]) (fun x => [own 5 1 x.2.1 (b ++ List.replicate x.1 0).length (B8 (b ++ List.replicate x.1 0)), blk b6 44 [.int .i64 0], blk b3 24 [.pointer (some ⟨p, 0, none⟩)], DSK p S, Ex h1, Ex h0]) ⟨0, u, Nat.zero_le _⟩ ?_; rintro ⟨j, u, hj⟩ mx hmx; (try dsimp only at hmx ⊢))
  have hjl : (b ++ List.replicate j (0 : UInt8)).length = b.length + j := by simp
  refine Ws ?_
  (refine Wcd ?_ ?_ <;> intro h)
  · have hj' : j < padN b.length := by
      rw [hjl] at h
      unfold padN at hj ⊢; omega
    refine Ws ?_
    (refine Zli (ys := [.int .u8 0]) ?_; intro vl)
    refine Ws ?_
    refine Zap ?_ (hr := by exact rdw_own Wp) (hl := by rfl) (h1 := by intro y hy; simp at hy; subst hy; rfl) (hb := by rw [hjl]; unfold padN at hj; omega)
    intro u'
    refine Ws ?_
    refine Zat (own 5 1 u' _ _) (own 5 1 u' (b ++ List.replicate (j + 1) 0).length (B8 (b ++ List.replicate (j + 1) 0))) ?_ (e := by rw [List.replicate_succ', ← List.append_assoc, B8_append (b ++ List.replicate j 0) [0], List.length_append (bs := [(0 : UInt8)])]; rfl)
    exact Zag ⟨j + 1, u', by omega⟩
  · have hje : j = padN b.length := by
      rw [hjl] at h
      unfold padN at hj ⊢; omega
    subst hje
    obtain ⟨B, hB⟩ : ∃ B, B = padB b := ⟨_, rfl⟩
    rw [show b ++ List.replicate (padN b.length) 0 = B by rw [hB]; rfl]
    rw [← hB]
    have hBm : B.length % 256 = 0 := by rw [hB]; exact padB_mod b
    have hBl : B.length ≤ b.length + 255 := by rw [hB, padB_length]; unfold padN; omega
    refine Tri.shut (e := 5) (size := 1) (v := u) Wp (fun h2 ho => ?_)
    have hr2 := own_Rd ho
    obtain ⟨A, c, hu, hmc, _⟩ := hr2.slice
    subst hu
    refine Ws ?_
    refine Zal fun b7 => ?_
    refine Wr ?_
    refine Zcr (slices_Chunk A B.length c) ?_
    rintro r2 H2 ⟨b8, b9, rfl, rfl⟩
    refine Wap ?_
    refine Ws ?_
    refine Zat (blk b7 3 _) (blk b7 3 [.int .i64 (addr * 4 + ((0 : Nat) : Int))]) ?_ (e := by rw [show addr * 4 + ((0 : Nat) : Int) = addr * 4 by omega]; rfl)
    refine TriR.range (α := RwS S (addr * 4) B) (β := RwE S (addr * 4) B) (γ := Unit) RwS.k
      (fun x => [blk b7 3 [.int .i64 (addr * 4 + (x.k : Int))], DSK p (S.wrs (addr * 4) (secs B x.k)).1, Ex h2, blk b3 24 [.pointer (some ⟨p, 0, none⟩)], blk b6 44 [.int .i64 0]]) ⟨0, by omega, rfl⟩ (fun _ => .ret)
      (fun y => [DSK p (S.wrs (addr * 4) (secs B (y.k + 1))).1, blk b6 44 [.int .i64 ((S.wrs (addr * 4) (secs B (y.k + 1))).2 : Int)]])
      (fun x _ => [(3, .pointer (some ⟨b3, 0, none⟩)), (6, .pointer (some ⟨b6, 0, none⟩)), (7, .pointer (some ⟨b7, 0, none⟩)), (8, .slice (A.map (·.add (x.k * 64))) 64 64)])
      (fun x _ => [blk b7 3 [.int .i64 (addr * 4 + (x.k : Int))], DSK p (S.wrs (addr * 4) (secs B x.k)).1, Ex h2, blk b3 24 [.pointer (some ⟨p, 0, none⟩)], blk b6 44 [.int .i64 0]])
      (chunk_iter A B.length c b8 b9 (by omega) ⟨hmc, by omega⟩) rfl rfl Wps ?_ ?_ ?_ ?_ ?_ ?_
    · intro y hy
      obtain ⟨k, _, rfl⟩ := List.mem_map.1 hy
      rfl
    · intro q hq
      simp at hq
      subst hq
      rfl
    · intro l x vs hvs hq
      obtain ⟨_, rfl⟩ := chunks_of (by omega) hvs
      simp only [zipL]
      refine Wap ?_
      refine Ws ?_
      exact Zrc ()
    · intro l x vs hvs z hq
      obtain ⟨hk1, _⟩ := chunks_of (by omega) hvs
      have hxk := x.hk
      have hS' := DS.wrs_ok (secs B x.k) (addr * 4) hS
      have hlen := (DS.wrs_len (secs B x.k) S (addr * 4)).1
      rw [secs_length] at hlen
      have hst := rw_step x.ok
      refine Wap ?_
      refine Ws ?_
      refine Zcs (disk_WriteD p (S.wrs (addr * 4) (secs B x.k)).1 (addr * 4 + (x.k : Int)) (.slice (A.map (·.add (x.k * 64))) 64 64) (sec B x.k) h2 (rd_part hr2 rfl hk1) hS' (by omega)) ?_
      rintro r3 H3 ⟨rfl, rfl⟩
      rw [← hst]
      refine Wap ?_
      refine Ws ?_
      by_cases hz : (S.wrs (addr * 4) (secs B (x.k + 1))).2 = 0
      · refine Zz 29 false ?_ (hi := by rw [hz]; rfl)
        refine Wr ?_
        refine Zat (blk b7 3 _) (blk b7 3 [.int .i64 (addr * 4 + ((x.k + 1 : Nat) : Int))]) ?_ (e := by rw [show addr * 4 + ((x.k + 1 : Nat) : Int) = addr * 4 + (x.k : Int) + 1 by omega]; rfl)
        refine Wr ?_
        ((with_reducible apply Tri.rdEnd (y := ⟨x.k + 1, by omega, hz⟩)); (case hk => rfl); (case p => ((try dsimp only [List.cons_append, List.nil_append]); (repeat (first | exact Pulls.nil | (apply Pulls.cons; (case a => (first | ((repeat (first | with_reducible exact Gv.Pull.head | with_reducible apply Gv.Pull.tail)); done) | (repeat (first | exact Gv.Pull.head | apply Gv.Pull.tail))))))))))
      · refine Zz 29 true ?_ (hi := by rw [decide_eq_true]; omega)
        refine Wr ?_
        ((with_reducible apply Tri.rdRet (y := ⟨x.k, by omega, x.ok, hz⟩)); (case hj => rfl); (case p => ((try dsimp only [List.cons_append, List.nil_append]); (repeat (first | exact Pulls.nil | (apply Pulls.cons; (case a => (first | ((repeat (first | with_reducible exact Gv.Pull.head | with_reducible apply Gv.Pull.tail)); done) | (repeat (first | exact Gv.Pull.head | apply Gv.Pull.tail))))))))))
    · intro D y hy
      have e : y.k = B.length / 64 := by rw [hy]; simp [chunks]
      refine Wap ?_
      refine Wr ?_
      ((first | with_reducible apply Tri.finM1 | with_reducible apply Tri.finM1N); (case p => (first | ((repeat (first | with_reducible exact Pull.head | with_reducible apply Pull.tail)); done) | (repeat (first | exact Pull.head | apply Pull.tail)))); (case hr => rfl); (case h => exact ResL.cons (Res1.cell rfl Wp rfl) (ResL.nil)); (apply fin_R (Hn := [DSK p (S.wrs (addr * 4) (secs B y.k)).1, Ex h1])); (case p => exact (by (repeat (first | exact Pulls.nil | (apply Pulls.cons; (case a => (first | ((repeat (first | with_reducible exact Gv.Pull.head | with_reducible apply Gv.Pull.tail)); done) | (repeat (first | exact Gv.Pull.head | apply Gv.Pull.tail))))))))); (rw [← e]; exact ⟨by rw [y.ok]; rfl, rfl⟩))
    · intro D y
      have e := rwE_all y (by omega)
      refine Wap ?_
      refine Ws ?_
      ((first | with_reducible apply Tri.finM1 | with_reducible apply Tri.finM1N); (case p => (first | ((repeat (first | with_reducible exact Pull.head | with_reducible apply Pull.tail)); done) | (repeat (first | exact Pull.head | apply Pull.tail)))); (case hr => rfl); (case h => exact ResL.cons (Res1.cell rfl Wp rfl) (ResL.nil)); (apply fin_R (Hn := [DSK p (S.wrs (addr * 4) (secs B (y.k + 1))).1, Ex h1])); (case p => exact (by (repeat (first | exact Pulls.nil | (apply Pulls.cons; (case a => (first | ((repeat (first | with_reducible exact Gv.Pull.head | with_reducible apply Gv.Pull.tail)); done) | (repeat (first | exact Gv.Pull.head | apply Gv.Pull.tail))))))))); (rw [e]; exact ⟨rfl, rfl⟩))
end Go.Proofs.YtcglabmlhljkmaaGreat
end
section
/- page: raw bytes from a disk. -/
namespace Go.Proofs.YtcglabmlhljkmaaGreat
open Go Go.RowKit Go.Gv
set_option linter.unusedVariables false
set_option linter.unusedSimpArgs false

/-- the first error of sectors that are read one behind the other -/
def rdE (S : DS) (i : Int) : Nat → Nat
  | 0 => 0
  | k + 1 => if rdE S i k ≠ 0 then rdE S i k else mayE S.off S.A.length (i + (k : Int))
theorem rdE_ok {S : DS} {i : Int} : ∀ {k : Nat}, rdE S i k = 0 → ∀ j < k, mayE S.off S.A.length (i + (j : Int)) = 0
  | 0, _, j, hj => absurd hj (by omega)
  | k + 1, h, j, hj => by
    rw [rdE] at h
    split at h
    · rename_i h'; exact absurd h h'
    · rename_i h'
      by_cases e : j = k
      · rw [e]; exact h
      · exact rdE_ok (k := k) (Classical.byContradiction h') j (by omega)
theorem rdE_mono {S : DS} {i : Int} {k : Nat} (h : rdE S i k ≠ 0) : ∀ m, rdE S i (k + m) = rdE S i k
  | 0 => rfl
  | m + 1 => by
    have ih := rdE_mono h m
    show (if rdE S i (k + m) ≠ 0 then rdE S i (k + m) else _) = _
    rw [ih, if_pos h]
theorem rdE_of {S : DS} {a : Nat} (ho : S.off = false) : ∀ k, (a + k) * 64 ≤ S.A.length → rdE S (a : Int) k = 0
  | 0, _ => rfl
  | k + 1, h => by
    rw [rdE, if_neg (by rw [rdE_of ho k (by omega)]; simp), ho]
    exact mayD_of (i := a + k) (by omega)
theorem text_step (V : List UInt8) (a k : Nat) (h : (a * 4 + k) * 64 + 64 ≤ V.length) : (V.drop (a * 256)).take (k * 64) ++ sec V (a * 4 + k) = (V.drop (a * 256)).take ((k + 1) * 64) := by
  rw [show (k + 1) * 64 = k * 64 + 64 by omega, List.take_add, sec, List.drop_drop, show (a * 4 + k) * 64 = a * 256 + k * 64 by omega]
theorem rd_cut {h : PH} {A : Option Addr} {m c k : Nat} {l : List UInt8} (hr : Rd h (.slice A m c) m (B8 l)) (hl : l.length = m) (hk : k ≤ m) : Rd h (.slice A k k) (l.take k).length (B8 (l.take k)) := by
  obtain ⟨A', c', hv, hc, h3⟩ := hr
  cases hv
  have e : (l.take k).length = k := by rw [List.length_take]; omega
  refine ⟨A, k, by rw [e], ⟨by omega, by omega⟩, fun j u hu => ?_⟩
  rw [show B8 (l.take k) = (B8 l).take k by simp [B8, List.map_take], List.getElem?_take] at hu
  split at hu
  · exact h3 j u hu
  · cases hu
set_option maxHeartbeats 16000000 in
theorem page_ReadRaw (p : Nat) (S : DS) (addr : Int) (n : Nat) (hS : S.ok) (hl : S.W.length ≤ 1000000) (hn : n ≤ 100000) (ha : -1000000 ≤ addr ∧ addr ≤ 1000000) :
    Gv.Spec Tryz.prog 133 #[.pointer (some ⟨p, 0, none⟩), .int .i64 addr, .int .i64 (n : Int)] [DSK p S]
    (fun r H' => (rdE S (addr * 4) ((n + 63) / 64) ≠ 0 ∧ r = .tuple #[.slice none 0 0, .int .i64 (rdE S (addr * 4) ((n + 63) / 64) : Int)] ∧ H' = [DSK p S])
      ∨ (rdE S (addr * 4) ((n + 63) / 64) = 0 ∧ ∃ A h1, r = .tuple #[.slice A n n, .int .i64 0] ∧ Rd h1 (.slice A n n) ((S.V.drop (addr.toNat * 256)).take n).length (B8 ((S.V.drop (addr.toNat * 256)).take n)) ∧ ((S.V.drop (addr.toNat * 256)).take n).length = n ∧ H' = [DSK p S, Ex h1])) := by
  refine Gv.Spec.of (fun w h0 hw => ?_)
  refine Calls.enter Tryz.func133 rfl rfl rfl hw ?_
  simp only [argSlots]
  refine Wap ?_
  have hVl := DS.V_length hS
  refine Ws ?_
  refine Zz 13 false ?_ (hi := by rw [decide_eq_false]; omega)
  refine Ws ?_
  (with_reducible apply Tri.ownNil 5 1)
  refine Zat (own 5 1 (.slice none 0 0) 0 []) (own 5 1 (.slice none 0 0) (((S.V.drop (addr.toNat * 256)).take (0 * 64))).length (B8 (((S.V.drop (addr.toNat * 256)).take (0 * 64))))) ?_ (e := by rw [Nat.zero_mul, List.take_zero]; rfl)
  refine Zi 9 (addr * 4 + ((0 : Nat) : Int)) ?_ (hi := by omega)
  (refine Wl (α := Σ' (k : Nat) (u : Value), k ≤ (n + 63) / 64 ∧ rdE S (addr * 4) k = 0 ∧ ((S.V.drop (addr.toNat * 256)).take (k * 64)).length = k * 64) (fun x => (n + 63) / 64 - x.1) (fun x => [(0, .pointer (some ⟨p, 0, none⟩)), (2, .int .i64 (n : Int)), (8, x.2.1), (9, .int .i64 (addr * 4 + (x.1 : Int)))]) (fun x => [own 5 1 x.2.1 (((S.V.drop (addr.toNat * 256)).take (x.1 * 64))).length (B8 (((S.V.drop (addr.toNat * 256)).take (x.1 * 64)))), DSK p S, Ex h0]) ⟨0, .slice none 0 0, Nat.zero_le _, rfl, by simp⟩ ?_; rintro ⟨k, u, hk, he, hkl⟩ mx hmx; (try dsimp only at hmx ⊢))
  refine Ws ?_
  (refine Wcd ?_ ?_ <;> intro h)
  · have hk' : k < (n + 63) / 64 := by rw [hkl] at h; omega
    refine Ws ?_
    refine Zcs (disk_ReadD p S (addr * 4 + (k : Int)) hS hl) ?_
    rintro r H' (⟨hm, rfl, rfl⟩ | ⟨hm, v, rfl, rfl⟩)
    · have hbad : rdE S (addr * 4) (k + 1) = mayE S.off S.A.length (addr * 4 + (k : Int)) := by rw [rdE, if_neg (by rw [he]; simp)]
      have hall : rdE S (addr * 4) ((n + 63) / 64) = mayE S.off S.A.length (addr * 4 + (k : Int)) := by
        have := rdE_mono (S := S) (i := addr * 4) (k := k + 1) (by rw [hbad]; exact hm) ((n + 63) / 64 - (k + 1))
        rw [show k + 1 + ((n + 63) / 64 - (k + 1)) = (n + 63) / 64 by omega] at this
        rw [this, hbad]
      refine Wap ?_
      refine Ws ?_
      refine Zz 29 true ?_ (hi := by rw [decide_eq_true]; omega)
      refine Ws ?_
      exact Zfn [DSK p S] (hq := by exact .inl ⟨by rw [hall]; exact hm, by rw [hall]; rfl, rfl⟩)
    · obtain ⟨_, hi0, hi1⟩ := mayD_ok hm
      have ha0 : 0 ≤ addr := by
        by_cases hk0 : k = 0
        · subst hk0; omega
        · have := (mayD_ok (rdE_ok he 0 (by omega))).2.1
          omega
      have e1 : (addr * 4 + (k : Int)).toNat = addr.toNat * 4 + k := by omega
      rw [e1]
      rw [e1] at hi1
      have hstep := text_step S.V addr.toNat k (by omega)
      have hsl := sec_length (b := S.V) (j := addr.toNat * 4 + k) (by omega)
      have hok : rdE S (addr * 4) (k + 1) = 0 := by rw [rdE, if_neg (by rw [he]; simp)]; exact hm
      have hnl : ((S.V.drop (addr.toNat * 256)).take ((k + 1) * 64)).length = (k + 1) * 64 := by
        rw [List.length_take, List.length_drop]; omega
      refine Wap ?_
      refine Ws ?_
      refine Zz 29 false ?_
      refine Ws ?_
      refine Zap ?_ (hr := by exact rdw_own (v := v) Wp) (hl := by rw [B8_length, hsl]) (h1 := by intro y hy; obtain ⟨c, _, rfl⟩ := List.mem_map.1 hy; rfl) (hb := by rw [hkl]; omega)
      intro u'
      refine Ws ?_
      refine Zat (own 5 1 u' _ _) (own 5 1 u' (((S.V.drop (addr.toNat * 256)).take ((k + 1) * 64))).length (B8 (((S.V.drop (addr.toNat * 256)).take ((k + 1) * 64))))) ?_ (e := by rw [← hstep, B8_append, List.length_append, hsl])
      refine Zi 9 (addr * 4 + ((k + 1 : Nat) : Int)) ?_ (hi := by omega)
      exact Zag ⟨k + 1, u', by omega, hok, hnl⟩
  · have hke : k = (n + 63) / 64 := by rw [hkl] at h; omega
    refine Tri.shut (e := 5) (size := 1) (v := u) Wp (fun h1 ho => ?_)
    have hr := own_Rd ho
    obtain ⟨A, c, hu, hmc, _⟩ := hr.slice
    subst hu
    rw [hkl] at hmc
    have hcut := rd_cut (k := n) hr rfl (by rw [hkl]; omega)
    rw [List.take_take, Nat.min_eq_left (by omega)] at hcut
    have hcl : ((S.V.drop (addr.toNat * 256)).take n).length = n := by
      rw [List.length_take] at hkl ⊢
      omega
    refine Ws ?_
    refine Zoslice3 (lo := 0) (hi := n) (mx := n) ?_
    refine Zv 37 (.slice A n n) ?_ (hv := by simp only [Nat.sub_zero, Nat.zero_mul]; cases A <;> simp [Addr.add])
    refine Ws ?_
    exact Zfn [DSK p S, Ex h1] (hq := by exact .inr ⟨by rw [← hke]; exact he, A, h1, rfl, hcut, hcl, rfl⟩)
end Go.Proofs.YtcglabmlhljkmaaGreat
end
section
/- The sum bit by bit: that the table's bytes and the reference's bits are one; that bursts are told. -/
namespace Go.Gv
set_option linter.unusedSimpArgs false

/-- the low bit -/
def low (n : UInt32) : Bool := n.toBitVec.getLsbD 0
def bit (b : Bool) : UInt32 := if b then 1 else 0
end Go.Gv
end
section
/- A burst of up to 32 bits tells: the sums of two texts that differ by one are not the same. -/
namespace Go.Gv
set_option linter.unusedSimpArgs false
set_option linter.unusedVariables false

/-- bits that are a word's from place k on, and zero elsewhere -/
def burst (k : Nat) (e : UInt32) (i : Nat) : Bool := decide (k ≤ i) && e.toBitVec.getLsbD (i - k)
/-- the text with the burst's first i bits turned -/
def turnBit (l : List UInt8) (p : Nat) : List UInt8 := l.set (p / 8) (l.getD (p / 8) 0 ^^^ (1 <<< UInt8.ofNat (p % 8)))
def turned (l : List UInt8) (k : Nat) (e : UInt32) : Nat → List UInt8
  | 0 => l
  | i + 1 => if e.toBitVec.getLsbD i then turnBit (turned l k e i) (k + i) else turned l k e i
end Go.Gv
end
section
/- page: what its functions compute, in plain terms. -/
namespace Go.Gv
set_option linter.unusedVariables false
set_option linter.unusedSimpArgs false

structure PG where
  k : UInt8
  a : Int
  g : Nat
  b : List UInt8
def zeroP : PG := ⟨0, 0, 0, []⟩
def knownK (k : UInt8) : Bool := decide (k.toNat = 83) || decide (k.toNat = 76) || decide (k.toNat = 73) || decide (k.toNat = 66)
def okP (p : PG) : Bool := knownK p.k && decide (0 ≤ p.a) && decide (p.a < 512) && decide (p.b.length ≤ 238)
/-- a number's bytes, the highest first -/
def bigB (n : Nat) : Nat → List UInt8
  | 0 => []
  | k + 1 => UInt8.ofNat (n / 2 ^ (8 * k)) :: bigB n k
theorem bigB_length (n : Nat) : ∀ k, (bigB n k).length = k
  | 0 => rfl
  | k + 1 => by rw [bigB, List.length_cons, bigB_length n k]
def headP (p : PG) : List UInt8 := [p.k, 0] ++ bigB p.a.toNat 2 ++ bigB p.g 8 ++ bigB p.b.length 2 ++ p.b ++ List.replicate (238 - p.b.length) 0
def le4 (s : UInt32) (i : Nat) : List UInt8 := (List.range i).map fun j => (s >>> UInt32.ofNat (8 * j)).toUInt8
def putP (p : PG) : List UInt8 := headP p ++ le4 (crcSum (headP p)) 4
theorem headP_length (p : PG) (h : p.b.length ≤ 238) : (headP p).length = 252 := by simp [headP, bigB_length]; omega
theorem le4_length (s : UInt32) (i : Nat) : (le4 s i).length = i := by simp [le4]
theorem putP_length (p : PG) (h : p.b.length ≤ 238) : (putP p).length = 256 := by rw [putP, List.length_append, headP_length p h, le4_length]
def numB (l : List UInt8) : Nat := l.foldl (fun n c => n * 256 + c.toNat) 0
theorem numB_snoc (l : List UInt8) (c : UInt8) : numB (l ++ [c]) = numB l * 256 + c.toNat := by rw [numB, List.foldl_append]; rfl
theorem numB_lt (l : List UInt8) : numB l < 256 ^ l.length := by
  have : ∀ (r : List UInt8), numB r.reverse < 256 ^ r.length := by
    intro r
    induction r with
    | nil => simp [numB]
    | cons c r ih =>
      rw [List.reverse_cons, numB_snoc, List.length_cons, Nat.pow_succ]
      have := c.toNat_lt
      omega
  have h := this l.reverse
  rwa [List.reverse_reverse, List.length_reverse] at h
theorem fold_big (n : Nat) : ∀ k m, (bigB n k).foldl (fun n c => n * 256 + c.toNat) m = m * 256 ^ k + n % 256 ^ k
  | 0, m => by simp [bigB, Nat.mod_one]
  | k + 1, m => by
    rw [bigB, List.foldl_cons, fold_big n k]
    have e : (UInt8.ofNat (n / 2 ^ (8 * k))).toNat = n / 256 ^ k % 256 := by
      rw [UInt8.toNat_ofNat', show (2 : Nat) ^ (8 * k) = 256 ^ k by rw [Nat.pow_mul]]
    rw [e, Nat.pow_succ, Nat.add_mul, Nat.mul_assoc, Nat.mul_comm 256 (256 ^ k), Nat.add_assoc, Nat.mod_mul, Nat.mul_comm (n / 256 ^ k % 256), Nat.add_comm (256 ^ k * _)]
theorem num_big (n k : Nat) : numB (bigB n k) = n % 256 ^ k := by rw [numB, fold_big]; simp
def gotP (l : List UInt8) (n : Nat) : PG := ⟨l.getD 0 0, (numB ((l.drop 2).take 2) : Int), numB ((l.drop 4).take 8), (l.drop 14).take n⟩
def lenP (l : List UInt8) : Nat := numB ((l.drop 12).take 2)
def getP (l : List UInt8) : PG × Nat := if l.length ≠ 256 then (zeroP, 4) else if 238 < lenP l then (zeroP, 3) else if okP (gotP l (lenP l)) = true ∧ putP (gotP l (lenP l)) = l then (gotP l (lenP l), 0) else (zeroP, 3)

theorem okP_spec {p : PG} (h : okP p = true) : knownK p.k = true ∧ 0 ≤ p.a ∧ p.a < 512 ∧ p.b.length ≤ 238 := by
  simp only [okP, Bool.and_eq_true, decide_eq_true_eq] at h
  exact ⟨h.1.1.1, h.1.1.2, h.1.2, h.2⟩
theorem seg {α : Type} (A B C : List α) (i n : Nat) (hA : A.length = i) (hB : B.length = n) : ((A ++ B ++ C).drop i).take n = B := by
  subst hA; subst hB
  rw [List.append_assoc, List.drop_left, List.take_left]
theorem put_len (p : PG) (h : okP p = true) : lenP (putP p) = p.b.length := by
  have hs := okP_spec h
  have e : putP p = ([p.k, 0] ++ bigB p.a.toNat 2 ++ bigB p.g 8) ++ bigB p.b.length 2 ++ (p.b ++ List.replicate (238 - p.b.length) 0 ++ le4 (crcSum (headP p)) 4) := by simp [putP, headP]
  rw [lenP, e, seg _ _ _ 12 2 (by simp [bigB_length]) (bigB_length _ _), num_big]
  exact Nat.mod_eq_of_lt (by omega)
theorem put_got (p : PG) (h : okP p = true) (hg : p.g < 18446744073709551616) : gotP (putP p) p.b.length = p := by
  have hs := okP_spec h
  have e0 : (putP p).getD 0 0 = p.k := by simp [putP, headP]
  have e1 : putP p = [p.k, 0] ++ bigB p.a.toNat 2 ++ (bigB p.g 8 ++ bigB p.b.length 2 ++ p.b ++ List.replicate (238 - p.b.length) 0 ++ le4 (crcSum (headP p)) 4) := by simp [putP, headP]
  have e2 : putP p = ([p.k, 0] ++ bigB p.a.toNat 2) ++ bigB p.g 8 ++ (bigB p.b.length 2 ++ p.b ++ List.replicate (238 - p.b.length) 0 ++ le4 (crcSum (headP p)) 4) := by simp [putP, headP]
  have e3 : putP p = ([p.k, 0] ++ bigB p.a.toNat 2 ++ bigB p.g 8 ++ bigB p.b.length 2) ++ p.b ++ (List.replicate (238 - p.b.length) 0 ++ le4 (crcSum (headP p)) 4) := by simp [putP, headP]
  have h1 : numB (((putP p).drop 2).take 2) = p.a.toNat := by
    rw [e1, seg _ _ _ 2 2 rfl (bigB_length _ _), num_big]; exact Nat.mod_eq_of_lt (by omega)
  have h2 : numB (((putP p).drop 4).take 8) = p.g := by
    rw [e2, seg _ _ _ 4 8 (by simp [bigB_length]) (bigB_length _ _), num_big]; exact Nat.mod_eq_of_lt (by omega)
  have h3 : ((putP p).drop 14).take p.b.length = p.b := by
    rw [e3, seg _ _ _ 14 p.b.length (by simp [bigB_length]) rfl]
  unfold gotP
  rw [e0, h1, h2, h3, show ((p.a.toNat : Nat) : Int) = p.a by omega]
theorem get_put (p : PG) (h : okP p = true) (hg : p.g < 18446744073709551616) : getP (putP p) = (p, 0) := by
  have hs := okP_spec h
  rw [getP, if_neg (by rw [putP_length p hs.2.2.2]; simp), put_len p h, if_neg (by omega), put_got p h hg, if_pos ⟨h, rfl⟩]

end Go.Gv
end
section
/- page: what its small functions answer. -/
namespace Go.Proofs.YtcglabmlhljkmaaGreat
open Go Go.RowKit Go.Gv
set_option linter.unusedVariables false
set_option linter.unusedSimpArgs false

def pgL (p : PG) (v : Value) : List Value := [.int .u8 (p.k.toNat : Int), .int .i64 p.a, .int .u64 (p.g : Int), v]
def pgV (p : PG) (v : Value) : Value := .agg (pgL p v).toArray
theorem bytes_eq' (a b : List UInt8) : decide ((⟨a.toArray⟩ : ByteArray) = ⟨b.toArray⟩) = decide (a = b) := by
  apply decide_eq_decide.2
  constructor
  · intro h
    have := congrArg ByteArray.data h
    simpa using this
  · rintro rfl; rfl
set_option maxHeartbeats 1000000 in
theorem page_known (k : UInt8) : SpecR Tryz.prog 195 #[.int .u8 (k.toNat : Int)] (fun _ => True) (fun r H' => r = .bool (knownK k) ∧ H' = []) := by
  refine SpecR.of (fun w _ => ?_)
  refine Calls.enter Tryz.func195 rfl rfl rfl (St.rebase w) ?_
  simp only [argSlots]
  refine Ws ?_
  (refine ZcB 4 ?_ ?_ <;> intro h1)
  · have g1 := of_decide_eq_true h1
    refine Ws ?_
    exact Zfr (hq := by simp only [tupled]; (rw [knownK, decide_eq_true (show k.toNat = 83 by omega)]; rfl))
  · have g1 := of_decide_eq_false h1
    refine Ws ?_
    (refine ZcB 4 ?_ ?_ <;> intro h2)
    · have g2 := of_decide_eq_true h2
      refine Ws ?_
      exact Zfr (hq := by simp only [tupled]; (rw [knownK, decide_eq_true (show k.toNat = 76 by omega), Bool.or_true]; rfl))
    · have g2 := of_decide_eq_false h2
      refine Ws ?_
      (refine ZcB 4 ?_ ?_ <;> intro h3)
      · have g3 := of_decide_eq_true h3
        refine Ws ?_
        exact Zfr (hq := by simp only [tupled]; (rw [knownK, decide_eq_true (show k.toNat = 73 by omega), Bool.or_true]; rfl))
      · have g3 := of_decide_eq_false h3
        refine Ws ?_
        (refine ZcB 4 ?_ ?_ <;> intro h4)
        · have g4 := of_decide_eq_true h4
          refine Ws ?_
          exact Zfr (hq := by simp only [tupled]; (rw [knownK, decide_eq_true (show k.toNat = 66 by omega), Bool.or_true]))
        · have g4 := of_decide_eq_false h4
          refine Ws ?_
          exact Zfr (hq := by simp only [tupled]; (rw [knownK, decide_eq_false (show ¬ k.toNat = 83 by omega), decide_eq_false (show ¬ k.toNat = 76 by omega), decide_eq_false (show ¬ k.toNat = 73 by omega), decide_eq_false (show ¬ k.toNat = 66 by omega)]; rfl))

theorem pgL_len (p : PG) (v : Value) : (pgL p v).length = 4 := rfl
theorem pgL_one (p : PG) (A : Option Addr) (m c : Nat) : ∀ y ∈ pgL p (.slice A m c), y.oneCell' = true := by
  intro y hy; simp [pgL] at hy; rcases hy with rfl | rfl | rfl | rfl <;> rfl
theorem byte_shr (n k : Nat) (hk : k < 8) : ((n : Int) / 2 ^ min (8 * (k : Int)).toNat IntKind.u64.bits) % 256 = ((UInt8.ofNat (n / 2 ^ (8 * k))).toNat : Int) := by
  have e : min (8 * (k : Int)).toNat IntKind.u64.bits = 8 * k := by
    show min (8 * (k : Int)).toNat 64 = 8 * k
    omega
  rw [e, UInt8.toNat_ofNat', Int.natCast_emod, Int.natCast_ediv, Int.natCast_pow]; rfl
set_option maxHeartbeats 1000000 in
theorem page_big (v : Value) (l : List UInt8) (n size : Nat) (hs : size ≤ 8) (hl : l.length ≤ 1000000) : Gv.Spec Tryz.prog 196 #[v, .int .u64 (n : Int), .int .i64 (size : Int)] [own 5 1 v l.length (B8 l)]
    (fun r H' => H' = [own 5 1 r (l ++ bigB n size).length (B8 (l ++ bigB n size))]) := by
  refine Gv.Spec.of (fun w h0 hw => ?_)
  refine Calls.enter Tryz.func196 rfl rfl rfl hw ?_
  simp only [argSlots]
  refine Wap ?_
  refine Ws ?_
  (refine Wl (α := Σ' (k : Nat) (c : List UInt8) (u : Value), k ≤ size ∧ c ++ bigB n k = l ++ bigB n size) (fun x => x.1) (fun x => [(0, x.2.2.1), (1, .int .u64 (n : Int)), (7, .int .i64 ((x.1 : Int) - 1))]) (fun x => [own 5 1 x.2.2.1 x.2.1.length (B8 x.2.1), Ex h0]) ⟨size, l, v, Nat.le_refl _, rfl⟩ ?_; rintro ⟨k, c, u, hk, hc⟩ mx hmx; (try dsimp only at hmx ⊢))
  have hcl : c.length + k = l.length + size := by
    have := congrArg List.length hc
    simpa [bigB_length] using this
  refine Ws ?_
  (refine Wcd ?_ ?_ <;> intro h)
  · obtain ⟨j, rfl⟩ : ∃ j, k = j + 1 := ⟨k - 1, by omega⟩
    refine Ws ?_
    refine Zi 19 ((UInt8.ofNat (n / 2 ^ (8 * j))).toNat : Int) ?_ (hi := by rw [show ((j + 1 : Nat) : Int) - 1 = (j : Int) by omega]; exact byte_shr n j (by omega))
    (refine Zli (ys := [.int .u8 ((UInt8.ofNat (n / 2 ^ (8 * j))).toNat : Int)]) ?_; intro vl)
    refine Ws ?_
    refine Zap ?_ (hr := by exact rdw_own Wp) (hl := by rfl) (h1 := by intro y hy; simp at hy; subst hy; rfl)
    intro u'
    refine Ws ?_
    refine Zat (own 5 1 u' _ _) (own 5 1 u' (c ++ [UInt8.ofNat (n / 2 ^ (8 * j))]).length (B8 (c ++ [UInt8.ofNat (n / 2 ^ (8 * j))]))) ?_ (e := by rw [B8_append, List.length_append]; rfl)
    refine Zi 7 ((j : Int) - 1) ?_ (hi := by omega)
    exact Zag ⟨j, c ++ [UInt8.ofNat (n / 2 ^ (8 * j))], u', by omega, by rw [← hc, bigB]; simp⟩
  · obtain rfl : k = 0 := by omega
    have hce : c = l ++ bigB n size := by rw [← hc]; simp [bigB]
    refine Ws ?_
    refine Zat (own 5 1 u _ _) (own 5 1 u (l ++ bigB n size).length (B8 (l ++ bigB n size))) ?_ (e := by rw [hce])
    refine Zfn [own 5 1 u (l ++ bigB n size).length (B8 (l ++ bigB n size))] (hq := ?_)
    rfl

theorem or8_64 (m : Nat) (y : UInt8) (hm : m * 256 + 256 ≤ 18446744073709551616) : Go.bits .or .u64 (IntKind.u64.wrap ((m : Int) * 2 ^ min (Int.toNat 8) IntKind.u64.bits)) (y.toNat : Int) = ((m * 256 + y.toNat : Nat) : Int) := by
  have hy := y.toNat_lt
  have e1 : IntKind.u64.wrap ((m : Int) * 2 ^ min (Int.toNat 8) IntKind.u64.bits) = ((m * 256 : Nat) : Int) := by
    rw [show (2 : Int) ^ min (Int.toNat 8) IntKind.u64.bits = 256 from rfl, wrap_u64 (by omega)]; omega
  rw [e1]
  have e2 : ((BitVec.ofInt 64 ((m * 256 : Nat) : Int) ||| BitVec.ofInt 64 ((y.toNat : Nat) : Int)).toNat) = m * 256 + y.toNat := by
    rw [ofInt_nat, ofInt_nat, BitVec.toNat_or, BitVec.toNat_ofNat, BitVec.toNat_ofNat, Nat.mod_eq_of_lt (by omega), Nat.mod_eq_of_lt (by omega)]
    have := Nat.shiftLeft_add_eq_or_of_lt (i := 8) (b := y.toNat) hy m
    rw [Nat.shiftLeft_eq] at this
    exact this.symm
  show IntKind.u64.wrap (((BitVec.ofInt 64 ((m * 256 : Nat) : Int) ||| BitVec.ofInt 64 ((y.toNat : Nat) : Int)).toNat : Nat) : Int) = _
  rw [e2, wrap_u64 (by omega)]
theorem numB_take (l : List UInt8) (k : Nat) (hk : k < l.length) : numB (l.take (k + 1)) = numB (l.take k) * 256 + (l[k]'hk).toNat := by
  rw [List.take_succ_eq_append_getElem hk, numB_snoc]
set_option maxHeartbeats 1000000 in
theorem page_number (v : Value) (l : List UInt8) (hl : l.length ≤ 8) : SpecR Tryz.prog 172 #[v] (fun w => RdW w v l.length (B8 l)) (fun r H' => r = .int .u64 (numB l : Int) ∧ H' = []) := by
  refine SpecR.of (fun w hr => ?_)
  refine Calls.enter Tryz.func172 rfl rfl rfl (St.rebase w) ?_
  simp only [argSlots]
  refine Ws ?_
  refine Zlr2 (hr := hr) ?_
  refine Ws ?_
  (refine Wl (α := { k : Nat // k ≤ l.length }) (fun x => l.length - x.1) (fun x => [(3, .int .u64 (numB (l.take x.1) : Int)), (6, v), (7, .int .i64 (l.length : Int)), (8, .int .i64 (x.1 : Int))]) (fun x => [Ex (hp w)]) ⟨0, Nat.zero_le _⟩ ?_; rintro ⟨k, hk⟩ mx hmx; (try dsimp only at hmx ⊢))
  refine Ws ?_
  (refine Wcd ?_ ?_ <;> intro h)
  · have hk' : k < l.length := by omega
    have hb := numB_lt (l.take k)
    have hb2 : numB (l.take k) < 256 ^ 7 := Nat.lt_of_lt_of_le hb (Nat.pow_le_pow_right (by omega) (by rw [List.length_take]; omega))
    refine Ws ?_
    refine Zir (hr := hr) (j := k) ?_ (hj := by rfl) (hlt := by exact hk') (hl := by rw [B8_length]; omega)
    refine Ws ?_
    refine Zlr (hr := hr) ?_ (hv := by exact (by rw [Nat.mul_one]; exact B8_get l k hk'))
    refine Ws ?_
    have hy : (((l[k]'hk').toNat : Nat) : Int) % 18446744073709551616 = ((l[k]'hk').toNat : Int) := by have := (l[k]'hk').toNat_lt; omega
    have hor := or8_64 (numB (l.take k)) (l[k]'hk') (by omega)
    refine Zi 3 (numB (l.take (k + 1)) : Int) ?_ (hi := by rw [numB_take l k hk', hy]; exact hor)
    exact Zag ⟨k + 1, by omega⟩
  · have hke : k = l.length := by omega
    refine Ws ?_
    exact Zfr (hq := by simp only [tupled]; (rw [hke, List.take_length]))

end Go.Proofs.YtcglabmlhljkmaaGreat
end
section
/- page: Put. -/
namespace Go.Proofs.YtcglabmlhljkmaaGreat
open Go Go.RowKit Go.Gv
set_option linter.unusedVariables false
set_option linter.unusedSimpArgs false

set_option maxHeartbeats 1000000 in
theorem page_Put_no (p : PG) (v : Value) (h : okP p = false) : SpecR Tryz.prog 165 #[tabV, pgV p v] (fun w => RdW w v p.b.length (B8 p.b)) (fun r H' => r = .tuple #[.slice none 0 0, .int .i64 1] ∧ H' = []) := by
  refine SpecR.of (fun w hr => ?_)
  have hlen := hr.le
  refine Calls.enter Tryz.func165 rfl rfl rfl (St.rebase w) ?_
  simp only [argSlots]
  refine Ws ?_
  (refine Wbx ?_; intro b2)
  refine Ws ?_
  (refine Wbx ?_; intro b3)
  refine Ws ?_
  refine Zcv (page_known p.k) ?_
  refine Ws ?_
  (refine ZcB 13 ?_ ?_ <;> intro h1)
  · refine Ws ?_
    exact Zfr (hq := by simp only [tupled]; done)
  · refine Ws ?_
    (refine ZcB 18 ?_ ?_ <;> intro h2)
    · refine Ws ?_
      exact Zfr (hq := by simp only [tupled]; done)
    · have g2 := of_decide_eq_false h2
      refine Ws ?_
      (refine ZcB 23 ?_ ?_ <;> intro h3)
      · refine Ws ?_
        exact Zfr (hq := by simp only [tupled]; done)
      · have g3 := of_decide_eq_false h3
        refine Ws ?_
        refine Zlr2 (hr := hr) ?_
        refine Ws ?_
        (refine Wcd ?_ ?_ <;> intro h4)
        · refine Ws ?_
          exact Zfr (hq := by simp only [tupled]; done)
        · exfalso
          have hk : knownK p.k = true := by simpa using h1
          have : okP p = true := by
            rw [okP, hk, decide_eq_true (show 0 ≤ p.a by omega), decide_eq_true (show p.a < 512 by omega), decide_eq_true (show p.b.length ≤ 238 by omega)]; rfl
          rw [this] at h; cases h

theorem own_list {t : TypeId} {v : Value} {n : Nat} {cs : List Value} {l : List UInt8} (h1 : n = l.length) (h2 : cs = B8 l) : own t 1 v n cs = own t 1 v l.length (B8 l) := by rw [h1, h2]
theorem le4_next (s : UInt32) (j : Nat) (hj : j < 4) : ((s.toNat : Int) / 2 ^ min (8 * (j : Int)).toNat IntKind.u32.bits) % 256 = (((s >>> UInt32.ofNat (8 * j)).toUInt8).toNat : Int) := by
  have := shr32 s (8 * j) (by omega) (8 * (j : Int)) (by omega)
  rw [this, ← wrapu8, low8]
theorem le4_succ (s : UInt32) (j : Nat) : le4 s (j + 1) = le4 s j ++ [(s >>> UInt32.ofNat (8 * j)).toUInt8] := by rw [le4, List.range_succ, List.map_append]; rfl
set_option maxHeartbeats 4000000 in
theorem page_Put (p : PG) (v : Value) (h : okP p = true) (hg : p.g < 18446744073709551616) : SpecR Tryz.prog 165 #[tabV, pgV p v] (fun w => RdW w v p.b.length (B8 p.b)) (fun r H' => ∃ u, r = .tuple #[u, .int .i64 0] ∧ H' = [own 5 1 u (putP p).length (B8 (putP p))]) := by
  refine SpecR.of (fun w hr => ?_)
  have hlen := hr.le
  obtain ⟨hk, ha0, ha1, hbl⟩ := okP_spec h
  refine Calls.enter Tryz.func165 rfl rfl rfl (St.rebase w) ?_
  simp only [argSlots]
  refine Ws ?_
  (refine Wbx ?_; intro b2)
  refine Ws ?_
  (refine Wbx ?_; intro b3)
  refine Ws ?_
  refine Zcv (page_known p.k) ?_
  refine Ws ?_
  refine Zz 13 false ?_ (hi := by rw [hk]; rfl)
  refine Ws ?_
  refine Zz 18 false ?_ (hi := by exact decide_eq_false (by omega))
  refine Ws ?_
  refine Zz 23 false ?_ (hi := by exact decide_eq_false (by omega))
  refine Ws ?_
  refine Zlr2 (hr := hr) ?_
  refine Ws ?_
  refine Zz 28 false ?_ (hi := by exact decide_eq_false (by omega))
  refine Ws ?_
  (refine Zli (ys := [.int .u8 (p.k.toNat : Int), .int .u8 0]) ?_; intro v31)
  refine Zat (own 5 1 v31 _ _) (own 5 1 v31 [p.k, 0].length (B8 [p.k, 0])) ?_
  refine Ws ?_
  refine Zi 34 (p.a.toNat : Int) ?_ (hi := by omega)
  refine Zcs (page_big v31 [p.k, 0] p.a.toNat 2 (by omega) (by simp)) ?_
  rintro v6 H1 rfl
  obtain ⟨c1, hc1⟩ : ∃ c1, c1 = [p.k, 0] ++ bigB p.a.toNat 2 := ⟨_, rfl⟩
  have hl1 : c1.length = 4 := by rw [hc1]; rfl
  rw [← hc1]
  refine Wap ?_
  refine Ws ?_
  refine Wm [blk b3 172 (pgL p v)] ?_
  refine Wq [0, 1, 2, 4, 5] ?_
  refine Zm 6 (h := fun _ _ x => by exact Zlr2 (hr := hr) x) (k := ?_)
  refine Wq [7] ?_
  refine ZA 3 ?_
  refine Zcs (page_big v6 c1 p.g 8 (by omega) (by omega)) ?_
  rintro v7 H2 rfl
  obtain ⟨c2, hc2⟩ : ∃ c2, c2 = c1 ++ bigB p.g 8 := ⟨_, rfl⟩
  have hl2 : c2.length = 12 := by rw [hc2, List.length_append, hl1, bigB_length]
  rw [← hc2]
  refine Wap ?_
  refine Zw ?_
  refine ZA 8 ?_
  refine Zcs (page_big v7 c2 p.b.length 2 (by omega) (by omega)) ?_
  rintro v8 H3 rfl
  obtain ⟨c3, hc3⟩ : ∃ c3, c3 = c2 ++ bigB p.b.length 2 := ⟨_, rfl⟩
  have hl3 : c3.length = 14 := by rw [hc3, List.length_append, hl2, bigB_length]
  rw [← hc3]
  refine Wap ?_
  refine Zw ?_
  refine Wq [9] ?_
  refine ZE ?_
  refine Ws ?_
  refine Zap ?_ (hr := by exact rdw_ex Wp hr) (hl := by exact B8_len1 p.b) (h1 := by exact B8_one p.b)
  intro v9
  refine Zat (own 5 1 v9 _ _) (own 5 1 v9 (c3 ++ p.b).length (B8 (c3 ++ p.b))) ?_ (e := by rw [B8_append, List.length_append])
  have hl4 : (c3 ++ p.b).length = 14 + p.b.length := by rw [List.length_append, hl3]
  refine Ws ?_
  refine Zi 52 ((238 - p.b.length : Nat) : Int) ?_ (hi := by rw [hl4]; omega)
  refine ZoappendZ (k := 238 - p.b.length) ?_ (hi := by rfl) (hb := by rw [hl4]; omega)
  intro v10
  have hh : headP p = c3 ++ p.b ++ List.replicate (238 - p.b.length) 0 := by rw [hc3, hc2, hc1]; rfl
  have hhl := headP_length p hbl
  refine Zat (own 5 1 v10 _ _) (own 5 1 v10 (headP p).length (B8 (headP p))) ?_ (e := by exact own_list (by rw [hhl, hl4]; omega) (by rw [hh, B8_append (c3 ++ p.b)]; congr 1; rw [B8, List.map_replicate]; rfl))
  refine Ws ?_
  refine Zla ?_ (hl := by exact tabL_length)
  refine Ws ?_
  refine Zcv (crc_Sum v10 (headP p)) ?_ (hpre := by exact rdw_own Wp)
  obtain ⟨s, hs⟩ : ∃ s, s = crcSum (headP p) := ⟨_, rfl⟩
  simp only [← hs]
  refine Ws ?_
  refine Zat (own 5 1 v10 _ _) (own 5 1 v10 (headP p ++ le4 s 0).length (B8 (headP p ++ le4 s 0))) ?_ (e := by rw [le4, List.range_zero, List.map_nil, List.append_nil])
  (refine Wl (α := Σ' (i : Nat) (u : Value), i ≤ 4) (fun x => 4 - x.1) (fun x => [(6, x.2.1), (7, .int .u32 (s.toNat : Int)), (57, .int .i64 (x.1 : Int))]) (fun x => [own 5 1 x.2.1 (headP p ++ le4 s x.1).length (B8 (headP p ++ le4 s x.1)), Ex (hp w)]) ⟨0, v10, Nat.zero_le _⟩ ?_; rintro ⟨i, u, hi⟩ mx hmx; (try dsimp only at hmx ⊢))
  have hll : (headP p ++ le4 s i).length = 252 + i := by rw [List.length_append, hhl, le4_length]
  refine Ws ?_
  (refine Wcd ?_ ?_ <;> intro hc)
  · have hi4 : i < 4 := by omega
    refine Ws ?_
    refine Zi 65 (((s >>> UInt32.ofNat (8 * i)).toUInt8).toNat : Int) ?_ (hi := by exact le4_next s i hi4)
    (refine Zli (ys := [.int .u8 (((s >>> UInt32.ofNat (8 * i)).toUInt8).toNat : Int)]) ?_; intro vl)
    refine Ws ?_
    refine Zap ?_ (hr := by exact rdw_own Wp) (hl := by rfl) (h1 := by intro y hy; simp at hy; subst hy; rfl)
    intro u'
    refine Zat (own 5 1 u' _ _) (own 5 1 u' (headP p ++ le4 s (i + 1)).length (B8 (headP p ++ le4 s (i + 1)))) ?_ (e := by exact own_list (by rw [hll, List.length_append, hhl, le4_length]; omega) (by rw [le4_succ, ← List.append_assoc, B8_append (headP p ++ le4 s i)]; rfl))
    refine Ws ?_
    exact Zag ⟨i + 1, u', by omega⟩
  · obtain rfl : i = 4 := by omega
    refine Ws ?_
    refine Zat (own 5 1 u _ _) (own 5 1 u (putP p).length (B8 (putP p))) ?_ (e := by rw [putP, ← hs])
    refine Zfn [own 5 1 u (putP p).length (B8 (putP p))] (hq := ?_)
    exact ⟨u, rfl, rfl⟩
end Go.Proofs.YtcglabmlhljkmaaGreat
end
section
/- page: Get. -/
namespace Go.Proofs.YtcglabmlhljkmaaGreat
open Go Go.RowKit Go.Gv
set_option linter.unusedVariables false
set_option linter.unusedSimpArgs false

set_option maxHeartbeats 400000 in
theorem bytes_Equal' (u v : Value) (a b : List UInt8) : SpecR Tryz.prog 135 #[u, v] (fun w => RdW w u a.length (B8 a) ∧ RdW w v b.length (B8 b)) (fun r H' => r = .bool (decide (a = b)) ∧ H' = []) := by
  refine SpecR.of (fun w hh => ?_)
  refine Calls.enter Tryz.func135 rfl rfl rfl (St.rebase w) ?_
  simp only [argSlots]
  refine Ws ?_
  refine Zbs (l := a) ?_ (he := by exact Tryz.underlying5) (hr := by exact rdw_ex Wp hh.1)
  refine Ws ?_
  refine Zbs (l := b) ?_ (he := by exact Tryz.underlying5) (hr := by exact rdw_ex Wp hh.2)
  refine Ws ?_
  exact Zfr (hq := by simp only [tupled]; (rw [bytes_eq']))
theorem sub_rd {h : PH} {v : Value} {l : List UInt8} (hr : Rd h v l.length (B8 l)) (lo hi : Nat) (h1 : lo ≤ hi) (h2 : hi ≤ l.length) : Rd h (subv v 1 lo hi) ((l.drop lo).take (hi - lo)).length (B8 ((l.drop lo).take (hi - lo))) := by
  have := hr.subv (size := 1) h1 h2
  rw [B8_sub] at this
  rw [show ((l.drop lo).take (hi - lo)).length = hi - lo by rw [List.length_take, List.length_drop]; omega]
  exact this
theorem get_or (l : List UInt8) (i : Nat) (h : i < l.length) : (B8 l)[i]? = some (.int .u8 ((l.getD i 0).toNat : Int)) := by
  rw [B8_get l i h, List.getD_eq_getElem?_getD, List.getElem?_eq_getElem h]; rfl
set_option maxHeartbeats 4000000 in
theorem page_Get (v : Value) (l : List UInt8) : SpecR Tryz.prog 134 #[tabV, v] (fun w => RdW w v l.length (B8 l)) (fun r H' => ∃ A c, r = .tuple #[pgV (getP l).1 (.slice A (getP l).1.b.length c), .int .i64 ((getP l).2 : Int)] ∧ H' = [own 5 1 (.slice A (getP l).1.b.length c) (getP l).1.b.length (B8 (getP l).1.b)]) := by
  refine SpecR.of (fun w hr => ?_)
  have hlen := hr.le
  refine Calls.enter Tryz.func134 rfl rfl rfl (St.rebase w) ?_
  simp only [argSlots]
  refine Ws ?_
  (refine Wbx ?_; intro b2)
  refine Ws ?_
  refine Zal fun b4 => ?_
  refine Ws ?_
  refine Zlr2 (hr := hr) ?_
  refine Ws ?_
  (refine Wcd ?_ ?_ <;> intro h1)
  · have hg : getP l = (zeroP, 4) := by rw [getP, if_pos (by omega)]
    refine Ws ?_
    refine ZSa (ys := pgL zeroP (.slice none 0 0)) ?_ (h1 := by exact pgL_one zeroP none 0 0)
    refine Ws ?_
    (with_reducible apply Tri.ownNil 5 1)
    rw [hg]
    exact Zfn [own 5 1 (.slice none 0 0) 0 []] (h := ResL.cons (Zra (pgL_len zeroP (.slice none 0 0))) (ResL.cons (Res1.tmp rfl) (ResL.nil))) (hq := by exact ⟨none, 0, rfl, rfl⟩)
  · have hl : l.length = 256 := by omega
    have e12 : ((l.drop 12).take (14 - 12)).length = 2 := by rw [List.length_take, List.length_drop]; omega
    have hn : lenP l < 65536 := by
      have := numB_lt ((l.drop 12).take 2)
      rw [e12] at this
      exact this
    refine Ws ?_
    refine Zsl (lo := 12) (hi := 14) ?_ (hr := by exact rdw_ex Wp hr)
    refine Ws ?_
    refine Zcv (page_number (subv v 1 12 14) ((l.drop 12).take (14 - 12)) (by omega)) ?_ (hpre := by exact rdw_ex Wp (sub_rd hr 12 14 (by omega) (by omega)))
    refine Zv 16 (.int .u64 (lenP l : Int)) ?_ (hv := by rfl)
    refine Ws ?_
    (refine Wcd ?_ ?_ <;> intro h2)
    · have hg : getP l = (zeroP, 3) := by rw [getP, if_neg (by omega), if_pos (by omega)]
      refine Ws ?_
      refine ZSa (ys := pgL zeroP (.slice none 0 0)) ?_ (h1 := by exact pgL_one zeroP none 0 0)
      refine Ws ?_
      (with_reducible apply Tri.ownNil 5 1)
      rw [hg]
      ((first | with_reducible apply Tri.fin | with_reducible apply Tri.finN); (case hr => rfl); (case h => exact ResL.cons ((Res1.agg rfl (by (first | ((repeat (first | with_reducible exact Pull.head | with_reducible apply Pull.tail)); done) | (repeat (first | exact Pull.head | apply Pull.tail)))) (by rw [List.drop_zero]; exact List.take_of_length_le (Nat.le_of_eq (pgL_len zeroP (.slice none 0 0)))) (pgL_len zeroP (.slice none 0 0)))) (ResL.cons (Res1.tmp rfl) (ResL.nil))); (apply fin_R (Hn := [own 5 1 (.slice none 0 0) 0 []])); (case p => exact (by (repeat (first | exact Pulls.nil | (apply Pulls.cons; (case a => (first | ((repeat (first | with_reducible exact Gv.Pull.head | with_reducible apply Gv.Pull.tail)); done) | (repeat (first | exact Gv.Pull.head | apply Gv.Pull.tail))))))))); exact ⟨none, 0, rfl, rfl⟩)
    · have hn8 : lenP l ≤ 238 := by omega
      have e24 : ((l.drop 2).take (4 - 2)).length = 2 := by rw [List.length_take, List.length_drop]; omega
      have e412 : ((l.drop 4).take (12 - 4)).length = 8 := by rw [List.length_take, List.length_drop]; omega
      have ebl : ((l.drop 14).take (14 + lenP l - 14)).length = lenP l := by rw [List.length_take, List.length_drop]; omega
      have ebb : (gotP l (lenP l)).b = (l.drop 14).take (14 + lenP l - 14) := by rw [show 14 + lenP l - 14 = lenP l by omega]; rfl
      have hb24 := numB_lt ((l.drop 2).take (4 - 2))
      rw [e24] at hb24
      refine Wo ?_
      ((first | with_reducible apply Tri.seqMeet (α := Nat × Option Addr × Nat) (Lx := fun x => [(1, v), (2, .pointer (some ⟨b2, 0, none⟩)), (4, .pointer (some ⟨b4, 0, none⟩)), (7, .pointer (some ⟨x.1, 0, none⟩))]) (Hx := fun x => [blk b2 70 tabL, blk b4 172 [.int .u8 0, .int .i64 0, .int .u64 0, .slice none 0 0], blk x.1 172 (pgL (gotP l (lenP l)) (.slice x.2.1 (gotP l (lenP l)).b.length x.2.2)), own 5 1 (.slice x.2.1 (gotP l (lenP l)).b.length x.2.2) (gotP l (lenP l)).b.length (B8 (gotP l (lenP l)).b), Ex (hp w)]) | with_reducible apply TriR.seqMeet (α := Nat × Option Addr × Nat) (Lx := fun x => [(1, v), (2, .pointer (some ⟨b2, 0, none⟩)), (4, .pointer (some ⟨b4, 0, none⟩)), (7, .pointer (some ⟨x.1, 0, none⟩))]) (Hx := fun x => [blk b2 70 tabL, blk b4 172 [.int .u8 0, .int .i64 0, .int .u64 0, .slice none 0 0], blk x.1 172 (pgL (gotP l (lenP l)) (.slice x.2.1 (gotP l (lenP l)).b.length x.2.2)), own 5 1 (.slice x.2.1 (gotP l (lenP l)).b.length x.2.2) (gotP l (lenP l)).b.length (B8 (gotP l (lenP l)).b), Ex (hp w)])); rotate_left; (rintro ⟨b7, Ac, cc⟩; (try dsimp only)); rotate_left)
      · refine Wm [Ex (hp w)] ?_
        refine Wq [0] ?_
        refine Zm 1 (h := fun _ _ x => by exact Zir (hr := hr) (j := 0) x (hj := by rfl) (hlt := by omega) (hl := by rw [B8_length]; omega)) (k := ?_)
        refine Zm 2 (h := fun _ _ x => by exact Zlr (v := .int .u8 ((l.getD 0 0).toNat : Int)) (hr := hr) x (hv := by exact get_or l 0 (by omega))) (k := ?_)
        refine Wq [3] ?_
        refine Zm 4 (h := fun _ _ x => by exact Zsl (lo := 2) (hi := 4) x (hr := by exact rdw_ex Wp hr)) (k := ?_)
        refine Zm 5 (h := fun _ _ x => by exact Zcv (page_number (subv v 1 2 4) ((l.drop 2).take (4 - 2)) (by omega)) x (hpre := by exact rdw_ex Wp (sub_rd hr 2 4 (by omega) (by omega)))) (k := ?_)
        refine Wq [6] ?_
        refine Wq [7] ?_
        refine Zm 8 (h := fun _ _ x => by exact Zsl (lo := 4) (hi := 12) x (hr := by exact rdw_ex Wp hr)) (k := ?_)
        refine Zm 9 (h := fun _ _ x => by exact Zcv (page_number (subv v 1 4 12) ((l.drop 4).take (12 - 4)) (by omega)) x (hpre := by exact rdw_ex Wp (sub_rd hr 4 12 (by omega) (by omega)))) (k := ?_)
        refine Wq [10, 11, 12] ?_
        refine Zm 13 (h := fun _ _ x => by exact Zsl (lo := 14) (hi := 14 + lenP l) x (hr := by exact rdw_ex Wp hr)) (k := ?_)
        refine ZA2 14 16 ?_ ?_
        · refine Zcr (bytes_Clone (subv v 1 14 (14 + lenP l)) ((l.drop 14).take (14 + lenP l - 14)) (by omega)) ?_ (hpre := by exact rdw_ex Wp (sub_rd hr 14 (14 + lenP l) (by omega) (by omega)))
          rintro vc Hc rfl
          refine Wap ?_
          refine Zat (own 5 1 vc _ _) (own 5 1 vc (gotP l (lenP l)).b.length (B8 (gotP l (lenP l)).b)) ?_ (e := by rw [ebb])
          (refine Tri.shape (e := 5) (size := 1) (v := vc) Wp ?_; rintro ⟨Ac, cc, rfl⟩)
          refine Zw ?_
          refine Zm 15 (h := fun _ _ x => by exact Zbu (ys := pgL (gotP l (lenP l)) (.slice Ac (gotP l (lenP l)).b.length cc)) x) (k := ?_)
          refine ZA 16 ?_
          refine Zal fun b7 => ?_
          refine Zw ?_
          refine ZA 17 ?_
          refine ZSa (ys := pgL (gotP l (lenP l)) (.slice Ac (gotP l (lenP l)).b.length cc)) ?_ (h1 := by exact pgL_one _ Ac _ cc)
          refine Zw ?_
          refine ZE ?_
          refine Wo ?_
          exact Zrc (b7, Ac, cc)
        · refine Zal fun b7 => ?_
          refine Zw ?_
          refine ZA 14 ?_
          refine Zcr (bytes_Clone (subv v 1 14 (14 + lenP l)) ((l.drop 14).take (14 + lenP l - 14)) (by omega)) ?_ (hpre := by exact rdw_ex Wp (sub_rd hr 14 (14 + lenP l) (by omega) (by omega)))
          rintro vc Hc rfl
          refine Wap ?_
          refine Zat (own 5 1 vc _ _) (own 5 1 vc (gotP l (lenP l)).b.length (B8 (gotP l (lenP l)).b)) ?_ (e := by rw [ebb])
          (refine Tri.shape (e := 5) (size := 1) (v := vc) Wp ?_; rintro ⟨Ac, cc, rfl⟩)
          refine Zw ?_
          refine Zm 15 (h := fun _ _ x => by exact Zbu (ys := pgL (gotP l (lenP l)) (.slice Ac (gotP l (lenP l)).b.length cc)) x) (k := ?_)
          refine ZA 17 ?_
          refine ZSa (ys := pgL (gotP l (lenP l)) (.slice Ac (gotP l (lenP l)).b.length cc)) ?_ (h1 := by exact pgL_one _ Ac _ cc)
          refine Zw ?_
          refine ZE ?_
          refine Wo ?_
          exact Zrc (b7, Ac, cc)
      · refine Ws ?_
        refine Zla ?_ (hl := by exact tabL_length)
        refine Ws ?_
        refine Zla ?_ (hl := by rfl)
        refine Ws ?_
        obtain ⟨q, hq⟩ : ∃ q, q = gotP l (lenP l) := ⟨_, rfl⟩
        have hqb : q.b.length = lenP l := by rw [hq, ebb, ebl]
        have hqg : q.g < 18446744073709551616 := by
          rw [hq]
          have := numB_lt ((l.drop 4).take (12 - 4))
          rw [e412] at this
          exact this
        simp only [← hq]
        by_cases hok : okP q = true
        · refine Zcr (page_Put q (.slice Ac q.b.length cc) hok hqg) ?_ (hpre := by exact rdw_own Wp)
          rintro r1 H1 ⟨u, rfl, rfl⟩
          refine Wap ?_
          refine Ws ?_
          refine Zz 45 false ?_
          refine Ws ?_
          refine Zcv (bytes_Equal' u v (putP q) l) ?_ (hpre := by exact fun w' hw' => ⟨rdw_own Wp w' hw', rdw_ex Wp hr w' hw'⟩)
          refine Ws ?_
          by_cases hpe : putP q = l
          · have hg : getP l = (q, 0) := by rw [getP, if_neg (by omega), if_neg (by omega), if_pos ⟨by rw [← hq]; exact hok, by rw [← hq]; exact hpe⟩, ← hq]
            refine Zz 50 false ?_ (hi := by simp [hpe])
            refine Ws ?_
            refine Zla ?_ (hl := by rfl)
            refine Ws ?_
            refine ZSa (ys := pgL q (.slice Ac q.b.length cc)) ?_ (h1 := by exact pgL_one q Ac _ cc)
            refine Ws ?_
            rw [hg]
            exact Zfn [own 5 1 (.slice Ac q.b.length cc) q.b.length (B8 q.b)] (h := ResL.cons (Zra (pgL_len q (.slice Ac q.b.length cc))) (ResL.cons (Res1.tmp rfl) (ResL.nil))) (hq := by exact ⟨Ac, cc, rfl, rfl⟩)
          · have hg : getP l = (zeroP, 3) := by rw [getP, if_neg (by omega), if_neg (by omega), if_neg (by rw [← hq]; exact fun h => hpe h.2)]
            refine Zz 50 true ?_ (hi := by simp [hpe])
            refine Ws ?_
            refine ZSa (ys := pgL zeroP (.slice none 0 0)) ?_ (h1 := by exact pgL_one zeroP none 0 0)
            refine Ws ?_
            (with_reducible apply Tri.ownNil 5 1)
            rw [hg]
            exact Zfn [own 5 1 (.slice none 0 0) 0 []] (h := ResL.cons (Zra (pgL_len zeroP (.slice none 0 0))) (ResL.cons (Res1.tmp rfl) (ResL.nil))) (hq := by exact ⟨none, 0, rfl, rfl⟩)
        · have hg : getP l = (zeroP, 3) := by rw [getP, if_neg (by omega), if_neg (by omega), if_neg (by rw [← hq]; exact fun h => hok h.1)]
          refine Zcv (page_Put_no q (.slice Ac q.b.length cc) (by simpa using hok)) ?_ (hpre := by exact rdw_own Wp)
          refine Ws ?_
          refine Zz 45 true ?_
          refine Ws ?_
          refine ZSa (ys := pgL zeroP (.slice none 0 0)) ?_ (h1 := by exact pgL_one zeroP none 0 0)
          refine Ws ?_
          (with_reducible apply Tri.ownNil 5 1)
          rw [hg]
          exact Zfn [own 5 1 (.slice none 0 0) 0 []] (h := ResL.cons (Zra (pgL_len zeroP (.slice none 0 0))) (ResL.cons (Res1.tmp rfl) (ResL.nil))) (hq := by exact ⟨none, 0, rfl, rfl⟩)
end Go.Proofs.YtcglabmlhljkmaaGreat
end
section
/- page: pages to a disk and back. -/
namespace Go.Proofs.YtcglabmlhljkmaaGreat
open Go Go.RowKit Go.Gv
set_option linter.unusedVariables false
set_option linter.unusedSimpArgs false

/-- the bytes of a page of a disk -/
def pgAt (V : List UInt8) (a : Nat) : List UInt8 := (V.drop (a * 256)).take 256
/-- a page that is read -/
def rdPg (S : DS) (addr : Int) (kind : UInt8) : PG × Nat :=
  if rdE S (addr * 4) 4 ≠ 0 then (zeroP, rdE S (addr * 4) 4)
  else if (getP (pgAt S.V addr.toNat)).2 = 0 ∧ (getP (pgAt S.V addr.toNat)).1.a = addr ∧ (getP (pgAt S.V addr.toNat)).1.k = kind then getP (pgAt S.V addr.toNat) else (zeroP, 3)
theorem sixteen (b : Bool) : (b = true ∨ b = false) := by cases b <;> simp
set_option maxHeartbeats 16000000 in
theorem page_Read (p : Nat) (S : DS) (addr : Int) (kind : UInt8) (hS : S.ok) (hl : S.W.length ≤ 1000000) (ha : -1000000 ≤ addr ∧ addr ≤ 1000000) :
    Gv.Spec Tryz.prog 88 #[tabV, .pointer (some ⟨p, 0, none⟩), .int .i64 addr, .int .u8 (kind.toNat : Int)] [DSK p S]
    (fun r H' => ∃ A c, r = .tuple #[pgV (rdPg S addr kind).1 (.slice A (rdPg S addr kind).1.b.length c), .int .i64 ((rdPg S addr kind).2 : Int)] ∧ H' = [DSK p S, own 5 1 (.slice A (rdPg S addr kind).1.b.length c) (rdPg S addr kind).1.b.length (B8 (rdPg S addr kind).1.b)]) := by
  refine Gv.Spec.of (fun w h0 hw => ?_)
  refine Calls.enter Tryz.func88 rfl rfl rfl hw ?_
  simp only [argSlots]
  refine Wap ?_
  refine Ws ?_
  (refine Wbx ?_; intro b4)
  refine Ws ?_
  refine Zal fun b8 => ?_
  refine Ws ?_
  refine Zcs (page_ReadRaw p S addr 256 hS hl (by omega) ha) ?_
  rintro r H' (⟨he, rfl, rfl⟩ | ⟨he, A0, h1, rfl, hr, hl2, rfl⟩)
  · have e4 : (256 + 63) / 64 = 4 := rfl
    rw [e4] at he ⊢
    have hrd : rdPg S addr kind = (zeroP, rdE S (addr * 4) 4) := by rw [rdPg, if_pos he]
    refine Wap ?_
    refine Ws ?_
    refine Zz 20 true ?_ (hi := by rw [decide_eq_true]; omega)
    refine Ws ?_
    refine ZSa (ys := pgL zeroP (.slice none 0 0)) ?_ (h1 := by exact pgL_one zeroP none 0 0)
    refine Ws ?_
    (with_reducible apply Tri.ownNil 5 1)
    exact Zfn [DSK p S, own 5 1 (.slice none 0 0) 0 []] (h := ResL.cons (Zra (pgL_len zeroP (.slice none 0 0))) (ResL.cons (Res1.tmp rfl) (ResL.nil))) (hq := by rw [hrd]; exact ⟨none, 0, rfl, rfl⟩)
  · have e4 : (256 + 63) / 64 = 4 := rfl
    rw [e4] at he
    refine Wap ?_
    obtain ⟨l, hlq⟩ : ∃ l, l = pgAt S.V addr.toNat := ⟨_, rfl⟩
    rw [show (S.V.drop (addr.toNat * 256)).take 256 = l from hlq.symm] at hr hl2
    refine Ws ?_
    refine Zz 20 false ?_
    refine Ws ?_
    refine Zla ?_ (hl := by exact tabL_length)
    refine Ws ?_
    refine Zcr (page_Get (.slice A0 256 256) l) ?_ (hpre := by exact rdw_ex Wp hr)
    rintro r2 H2 ⟨A, c, rfl, rfl⟩
    refine Wap ?_
    have hrd : rdPg S addr kind = if (getP l).2 = 0 ∧ (getP l).1.a = addr ∧ (getP l).1.k = kind then getP l else (zeroP, 3) := by rw [rdPg, if_neg (by rw [he]; simp), hlq]
    obtain ⟨g, hg⟩ : ∃ g, g = getP l := ⟨_, rfl⟩
    rw [← hg] at hrd ⊢
    obtain ⟨q, e⟩ := g
    dsimp only at hrd ⊢
    refine Ws ?_
    refine Zal fun b12 => ?_
    refine Ws ?_
    refine ZSa (ys := pgL q (.slice A q.b.length c)) ?_ (h1 := by exact pgL_one q A _ c)
    refine Ws ?_
    by_cases h2 : e = 0
    · subst h2
      refine Zz 31 false ?_
      refine Ws ?_
      by_cases h3 : q.a = addr
      · refine Zz 37 false ?_ (hi := by simp [h3])
        refine Ws ?_
        by_cases h4 : q.k = kind
        · rw [if_pos ⟨rfl, h3, h4⟩] at hrd
          refine Zz 42 false ?_ (hi := by simp [h4])
          refine Ws ?_
          refine Zla (cs := pgL q (.slice A q.b.length c)) ?_ (hl := by rfl)
          refine Ws ?_
          refine ZSa (ys := pgL q (.slice A q.b.length c)) ?_ (h1 := by exact pgL_one q A _ c)
          refine Ws ?_
          exact Zfn [DSK p S, own 5 1 (.slice A q.b.length c) q.b.length (B8 q.b)] (h := ResL.cons (Zra (pgL_len q (.slice A q.b.length c))) (ResL.cons (Res1.tmp rfl) (ResL.nil))) (hq := by rw [hrd]; exact ⟨A, c, rfl, rfl⟩)
        · rw [if_neg (fun h => h4 h.2.2)] at hrd
          have h4' : ¬ ((q.k.toNat : Nat) : Int) = kind.toNat := fun h => h4 (UInt8.toNat_inj.1 (by omega))
          refine Zz 42 true ?_ (hi := by rw [decide_eq_true]; exact h4')
          refine Ws ?_
          refine ZSa (ys := pgL zeroP (.slice none 0 0)) ?_ (h1 := by exact pgL_one zeroP none 0 0)
          refine Ws ?_
          (with_reducible apply Tri.ownNil 5 1)
          exact Zfn [DSK p S, own 5 1 (.slice none 0 0) 0 []] (h := ResL.cons (Zra (pgL_len zeroP (.slice none 0 0))) (ResL.cons (Res1.tmp rfl) (ResL.nil))) (hq := by rw [hrd]; exact ⟨none, 0, rfl, rfl⟩)
      · rw [if_neg (fun h => h3 h.2.1)] at hrd
        refine Zz 37 true ?_ (hi := by rw [decide_eq_true]; exact h3)
        refine Ws ?_
        refine ZSa (ys := pgL zeroP (.slice none 0 0)) ?_ (h1 := by exact pgL_one zeroP none 0 0)
        refine Ws ?_
        (with_reducible apply Tri.ownNil 5 1)
        exact Zfn [DSK p S, own 5 1 (.slice none 0 0) 0 []] (h := ResL.cons (Zra (pgL_len zeroP (.slice none 0 0))) (ResL.cons (Res1.tmp rfl) (ResL.nil))) (hq := by rw [hrd]; exact ⟨none, 0, rfl, rfl⟩)
    · rw [if_neg (fun h => h2 h.1)] at hrd
      refine Zz 31 true ?_ (hi := by rw [decide_eq_true]; omega)
      refine Ws ?_
      refine ZSa (ys := pgL zeroP (.slice none 0 0)) ?_ (h1 := by exact pgL_one zeroP none 0 0)
      refine Ws ?_
      (with_reducible apply Tri.ownNil 5 1)
      exact Zfn [DSK p S, own 5 1 (.slice none 0 0) 0 []] (h := ResL.cons (Zra (pgL_len zeroP (.slice none 0 0))) (ResL.cons (Res1.tmp rfl) (ResL.nil))) (hq := by rw [hrd]; exact ⟨none, 0, rfl, rfl⟩)
/-- a page that is written: the disk behind it, and the error -/
def wrPg (S : DS) (q : PG) : DS × Nat := if okP q = true then S.wrs (q.a * 4) (secs (putP q) 4) else (S, 1)
theorem padP {q : PG} (h : okP q = true) : padB (putP q) = putP q := by
  have hl := putP_length q (okP_spec h).2.2.2
  unfold padB padN
  rw [hl]; simp
set_option maxHeartbeats 4000000 in
theorem page_Write (p : Nat) (S : DS) (q : PG) (v : Value) (h1 : PH) (hr : Rd h1 v q.b.length (B8 q.b)) (hg : q.g < 18446744073709551616) (hS : S.ok) (hl : S.W.length ≤ 800000) :
    Gv.Spec Tryz.prog 122 #[tabV, .pointer (some ⟨p, 0, none⟩), pgV q v] [DSK p S, Ex h1]
    (fun r H' => r = .int .i64 ((wrPg S q).2 : Int) ∧ H' = [DSK p (wrPg S q).1, Ex h1]) := by
  refine Gv.Spec.of (fun w h0 hw => ?_)
  refine Calls.enter Tryz.func122 rfl rfl rfl hw ?_
  simp only [argSlots]
  refine Wap ?_
  refine Ws ?_
  (refine Wbx ?_; intro b3)
  refine Ws ?_
  (refine Wbx ?_; intro b5)
  refine Ws ?_
  refine Zla ?_ (hl := by exact tabL_length)
  refine Ws ?_
  refine Zla (cs := pgL q v) ?_ (hl := by rfl)
  refine Ws ?_
  by_cases hok : okP q = true
  · have hs := okP_spec hok
    have hpl := putP_length q hs.2.2.2
    refine Zcr (page_Put q v hok hg) ?_ (hpre := by exact rdw_ex Wp hr)
    rintro r H' ⟨u, rfl, rfl⟩
    refine Wap ?_
    refine Tri.shut (e := 5) (size := 1) (v := u) Wp (fun h2 ho => ?_)
    refine Ws ?_
    refine Zz 16 false ?_
    refine Ws ?_
    refine Zcs (page_WriteRaw p S q.a u (putP q) h2 (own_Rd ho) hS (by omega) (by omega) (by omega)) ?_
    rintro r2 H2 ⟨rfl, rfl⟩
    rw [padP hok, hpl]
    refine Wap ?_
    refine Ws ?_
    have hwp : wrPg S q = S.wrs (q.a * 4) (secs (putP q) (256 / 64)) := by rw [wrPg, if_pos hok]
    rw [← hwp]
    exact Zfn [DSK p (wrPg S q).1, Ex h1] (hq := by exact ⟨rfl, rfl⟩)
  · have hno : okP q = false := by simpa using hok
    refine Zcv (page_Put_no q v hno) ?_ (hpre := by exact rdw_ex Wp hr)
    refine Ws ?_
    refine Zz 16 true ?_
    refine Ws ?_
    have hwp : wrPg S q = (S, 1) := by rw [wrPg, if_neg hok]
    rw [hwp]
    exact Zfn [DSK p S, Ex h1] (hq := by exact ⟨rfl, rfl⟩)
end Go.Proofs.YtcglabmlhljkmaaGreat
end
section
/- node: what its functions compute of inner nodes, in plain terms. -/
namespace Go.Gv
set_option linter.unusedVariables false
set_option linter.unusedSimpArgs false

abbrev KEY := Int × Int
def betw (n low high : Int) : Bool := decide (low ≤ n) && decide (n ≤ high)
def keyOk (k : KEY) : Bool := betw k.1 0 4294967295
def lessK (a b : KEY) : Bool := decide (a.1 < b.1) || (decide (a.1 = b.1) && decide (a.2 < b.2))
/-- may the key at place i be there? -/
def keyAt (ks : List KEY) (i : Nat) : Bool := keyOk (ks.getD i (0, 0)) && (decide (i = 0) || lessK (ks.getD (i - 1) (0, 0)) (ks.getD i (0, 0)))
def kidAt (kids : List Int) (i : Nat) : Bool := betw (kids.getD i 0) 2 511 && !decide (kids.getD i 0 ∈ kids.take i)
def keysTo (ks : List KEY) : Nat → Bool
  | 0 => true
  | i + 1 => keysTo ks i && keyAt ks i
def kidsTo (kids : List Int) : Nat → Bool
  | 0 => true
  | i + 1 => kidsTo kids i && kidAt kids i
def innerB (ks : List KEY) (kids : List Int) : Bool := keysTo ks ks.length && kidsTo kids kids.length && decide (ks.length = kids.length) && betw (kids.length : Int) 1 16
theorem keysTo_mono (ks : List KEY) {i : Nat} (h : keysTo ks i = false) : ∀ j, i ≤ j → keysTo ks j = false
  | 0, hj => by obtain rfl : i = 0 := by omega
                exact h
  | j + 1, hj => by
    by_cases e : i = j + 1
    · subst e; exact h
    · rw [keysTo, keysTo_mono ks h j (by omega), Bool.false_and]
theorem kidsTo_mono (ks : List Int) {i : Nat} (h : kidsTo ks i = false) : ∀ j, i ≤ j → kidsTo ks j = false
  | 0, hj => by obtain rfl : i = 0 := by omega
                exact h
  | j + 1, hj => by
    by_cases e : i = j + 1
    · subst e; exact h
    · rw [kidsTo, kidsTo_mono ks h j (by omega), Bool.false_and]
def n64 (t : Int) : Nat := (t % 18446744073709551616).toNat
def keyB (k : KEY) : List UInt8 := bigB k.1.toNat 4 ++ bigB (n64 k.2) 8
theorem keyB_length (k : KEY) : (keyB k).length = 12 := by simp [keyB, bigB_length]
/-- the bytes of the first i children -/
def kidsB (ks : List KEY) (kids : List Int) : Nat → List UInt8
  | 0 => []
  | i + 1 => kidsB ks kids i ++ (keyB (ks.getD i (0, 0)) ++ bigB (kids.getD i 0).toNat 2)
theorem kidsB_length (ks : List KEY) (kids : List Int) : ∀ i, (kidsB ks kids i).length = i * 14
  | 0 => rfl
  | i + 1 => by rw [kidsB, List.length_append, kidsB_length ks kids i, List.length_append, keyB_length, bigB_length]; omega
def putI (ks : List KEY) (kids : List Int) : List UInt8 := UInt8.ofNat kids.length :: kidsB ks kids kids.length
/-- a number of 64 bits, with a sign -/
def s64 (n : Nat) : Int := if n < 9223372036854775808 then (n : Int) else (n : Int) - 18446744073709551616
def keyG (l : List UInt8) (i : Nat) : KEY := ((numB ((l.drop (1 + i * 14)).take 4) : Int), s64 (numB ((l.drop (5 + i * 14)).take 8)))
def kidG (l : List UInt8) (i : Nat) : Int := (numB ((l.drop (13 + i * 14)).take 2) : Int)
def keysG (l : List UInt8) (i : Nat) : List KEY := (List.range i).map (keyG l)
def kidsG (l : List UInt8) (i : Nat) : List Int := (List.range i).map (kidG l)
def cntG (l : List UInt8) : Nat := (l.getD 0 0).toNat
def getI (l : List UInt8) : (List KEY × List Int) × Nat :=
  if l.length = 0 ∨ l.length ≠ 1 + cntG l * 14 then (([], []), 3)
  else if innerB (keysG l (cntG l)) (kidsG l (cntG l)) = true ∧ putI (keysG l (cntG l)) (kidsG l (cntG l)) = l then ((keysG l (cntG l), kidsG l (cntG l)), 0) else (([], []), 3)
end Go.Gv
end
section
/- node: leaves, in plain terms. -/
namespace Go.Gv
set_option linter.unusedVariables false
set_option linter.unusedSimpArgs false

structure ENT where
  key : KEY
  fin : Int
  addr : Int
  len : Int
  count : Int
  codec : Int
  crc : Nat
def ent0 : ENT := ⟨(0, 0), 0, 0, 0, 0, 0, 0⟩
def pagesE (n : Int) : Int := (n + 255) / 256
def entOk (e : ENT) : Bool := keyOk e.key && decide (e.key.2 ≤ e.fin) && betw e.addr 2 511 && betw e.len 1 65535 && decide (e.addr + pagesE e.len ≤ 512) && betw e.count 1 200 && betw e.codec 0 15
def afterE (p e : ENT) : Bool := lessK p.key e.key && !(decide (p.key.1 = e.key.1) && decide (e.key.2 ≤ p.fin))
def entAt (E : List ENT) (i : Nat) : Bool := entOk (E.getD i ent0) && (decide (i = 0) || afterE (E.getD (i - 1) ent0) (E.getD i ent0))
def entsTo (E : List ENT) : Nat → Bool
  | 0 => true
  | i + 1 => entsTo E i && entAt E i
def leafB (E : List ENT) : Bool := entsTo E E.length && betw (E.length : Int) 1 7
theorem entsTo_mono (ks : List ENT) {i : Nat} (h : entsTo ks i = false) : ∀ j, i ≤ j → entsTo ks j = false
  | 0, hj => by obtain rfl : i = 0 := by omega
                exact h
  | j + 1, hj => by
    by_cases e : i = j + 1
    · subst e; exact h
    · rw [entsTo, entsTo_mono ks h j (by omega), Bool.false_and]
theorem entAt_lt {E : List ENT} {i n : Nat} (h : entAt E i = false) (hi : i < n) : entsTo E n = false := entsTo_mono E (i := i + 1) (by rw [entsTo, h, Bool.and_false]) n (by omega)
theorem entsTo_at {E : List ENT} : ∀ {n : Nat}, entsTo E n = true → ∀ i, i < n → entAt E i = true
  | n + 1, h, i, hi => by
    rw [entsTo, Bool.and_eq_true] at h
    by_cases e : i = n
    · subst e; exact h.2
    · exact entsTo_at h.1 i (by omega)
theorem leaf_no {E : List ENT} (h : entsTo E E.length = false) : leafB E = false := by rw [leafB, h]; rfl
/-- a node may be -/
def rightN (leaf : Bool) (E : List ENT) (K : List KEY) (D : List Int) : Bool :=
  if leaf then decide (K.length = 0) && (decide (D.length = 0) && leafB E) else decide (E.length = 0) && innerB K D
def entB (e : ENT) : List UInt8 := keyB e.key ++ bigB (n64 e.fin) 8 ++ bigB e.addr.toNat 2 ++ bigB e.len.toNat 2 ++ [UInt8.ofNat e.count.toNat, UInt8.ofNat e.codec.toNat] ++ bigB e.crc 4
theorem entB_length (e : ENT) : (entB e).length = 30 := by simp [entB, keyB_length, bigB_length]
def entsB (E : List ENT) : Nat → List UInt8
  | 0 => []
  | i + 1 => entsB E i ++ entB (E.getD i ent0)
theorem entsB_length (E : List ENT) : ∀ i, (entsB E i).length = i * 30
  | 0 => rfl
  | i + 1 => by rw [entsB, List.length_append, entsB_length E i, entB_length]; omega
def putL (E : List ENT) : List UInt8 := UInt8.ofNat E.length :: entsB E E.length
def putN (leaf : Bool) (E : List ENT) (K : List KEY) (D : List Int) : List UInt8 := if leaf then putL E else putI K D
/-- the entry that stands at the head of bytes -/
def entP (l : List UInt8) : ENT := ⟨((numB (l.take 4) : Int), s64 (numB ((l.drop 4).take 8))), s64 (numB ((l.drop 12).take 8)), (numB ((l.drop 20).take 2) : Int), (numB ((l.drop 22).take 2) : Int), (numB ((l.drop 24).take 1) : Int), (numB ((l.drop 25).take 1) : Int), numB ((l.drop 26).take 4)⟩
def entsG (l : List UInt8) (i : Nat) : List ENT := (List.range i).map fun k => entP (l.drop (1 + k * 30))
theorem entsG_length (l : List UInt8) (i : Nat) : (entsG l i).length = i := by simp [entsG]
theorem entsG_succ (l : List UInt8) (i : Nat) : entsG l (i + 1) = entsG l i ++ [entP (l.drop (1 + i * 30))] := by rw [entsG, List.range_succ, List.map_append]; rfl
def getL (l : List UInt8) : List ENT × Nat :=
  if l.length = 0 ∨ l.length ≠ 1 + cntG l * 30 then ([], 3)
  else if leafB (entsG l (cntG l)) = true ∧ putL (entsG l (cntG l)) = l then (entsG l (cntG l), 0) else ([], 3)
/-- Go's own bounds of numbers -/
def i64R (n : Int) : Prop := -9223372036854775808 ≤ n ∧ n ≤ 9223372036854775807
def entR (e : ENT) : Prop := i64R e.key.2 ∧ i64R e.fin ∧ e.crc < 4294967296
def keyR (k : KEY) : Prop := i64R k.2
theorem s64_n64 {t : Int} (h : i64R t) : s64 (n64 t) = t := by
  unfold i64R at h
  unfold s64 n64
  split <;> omega
theorem n64_lt (t : Int) : n64 t < 18446744073709551616 := by unfold n64; omega
theorem n64_mod (t : Int) : n64 t % 256 ^ 8 = n64 t := Nat.mod_eq_of_lt (n64_lt t)
theorem numB_one (c : UInt8) : numB [c] = c.toNat := by simp [numB]
theorem byte_of {n : Int} (h0 : 0 ≤ n) (h1 : n ≤ 255) : ((UInt8.ofNat n.toNat).toNat : Int) = n := by
  rw [UInt8.toNat_ofNat']; omega
theorem entOk_spec {e : ENT} (h : entOk e = true) : (0 ≤ e.key.1 ∧ e.key.1 ≤ 4294967295) ∧ e.key.2 ≤ e.fin ∧ (2 ≤ e.addr ∧ e.addr ≤ 511) ∧ (1 ≤ e.len ∧ e.len ≤ 65535) ∧ e.addr + pagesE e.len ≤ 512 ∧ (1 ≤ e.count ∧ e.count ≤ 200) ∧ 0 ≤ e.codec ∧ e.codec ≤ 15 := by
  simp only [entOk, keyOk, betw, Bool.and_eq_true, decide_eq_true_eq] at h
  obtain ⟨⟨⟨⟨⟨⟨h1, h2⟩, h3⟩, h4⟩, h5⟩, h6⟩, h7⟩ := h
  exact ⟨h1, h2, h3, h4, h5, h6, h7⟩
theorem seg0 {α : Type} (B C : List α) (n : Nat) (hB : B.length = n) : (B ++ C).take n = B := by subst hB; rw [List.take_left]
theorem ent_back (e : ENT) (rest : List UInt8) (h : entOk e = true) (hr : entR e) : entP (entB e ++ rest) = e := by
  obtain ⟨h1, h2, h3, h4, h5, h6, h7⟩ := entOk_spec h
  obtain ⟨r1, r2, r3⟩ := hr
  have k1 : (entB e ++ rest).take 4 = bigB e.key.1.toNat 4 := by
    rw [show entB e ++ rest = bigB e.key.1.toNat 4 ++ (bigB (n64 e.key.2) 8 ++ (bigB (n64 e.fin) 8 ++ (bigB e.addr.toNat 2 ++ (bigB e.len.toNat 2 ++ ([UInt8.ofNat e.count.toNat, UInt8.ofNat e.codec.toNat] ++ (bigB e.crc 4 ++ rest)))))) by simp [entB, keyB, List.append_assoc]]
    exact seg0 _ _ _ (bigB_length _ _)
  have k2 : ((entB e ++ rest).drop 4).take 8 = bigB (n64 e.key.2) 8 := by
    rw [show entB e ++ rest = bigB e.key.1.toNat 4 ++ bigB (n64 e.key.2) 8 ++ (bigB (n64 e.fin) 8 ++ (bigB e.addr.toNat 2 ++ (bigB e.len.toNat 2 ++ ([UInt8.ofNat e.count.toNat, UInt8.ofNat e.codec.toNat] ++ (bigB e.crc 4 ++ rest))))) by simp [entB, keyB, List.append_assoc]]
    exact seg _ _ _ _ _ (bigB_length _ _) (bigB_length _ _)
  have k3 : ((entB e ++ rest).drop 12).take 8 = bigB (n64 e.fin) 8 := by
    rw [show entB e ++ rest = keyB e.key ++ bigB (n64 e.fin) 8 ++ (bigB e.addr.toNat 2 ++ (bigB e.len.toNat 2 ++ ([UInt8.ofNat e.count.toNat, UInt8.ofNat e.codec.toNat] ++ (bigB e.crc 4 ++ rest)))) by simp [entB, List.append_assoc]]
    exact seg _ _ _ _ _ (keyB_length _) (bigB_length _ _)
  have k4 : ((entB e ++ rest).drop 20).take 2 = bigB e.addr.toNat 2 := by
    rw [show entB e ++ rest = (keyB e.key ++ bigB (n64 e.fin) 8) ++ bigB e.addr.toNat 2 ++ (bigB e.len.toNat 2 ++ ([UInt8.ofNat e.count.toNat, UInt8.ofNat e.codec.toNat] ++ (bigB e.crc 4 ++ rest))) by simp [entB, List.append_assoc]]
    exact seg _ _ _ _ _ (by simp [keyB_length, bigB_length]) (bigB_length _ _)
  have k5 : ((entB e ++ rest).drop 22).take 2 = bigB e.len.toNat 2 := by
    rw [show entB e ++ rest = (keyB e.key ++ bigB (n64 e.fin) 8 ++ bigB e.addr.toNat 2) ++ bigB e.len.toNat 2 ++ ([UInt8.ofNat e.count.toNat, UInt8.ofNat e.codec.toNat] ++ (bigB e.crc 4 ++ rest)) by simp [entB, List.append_assoc]]
    exact seg _ _ _ _ _ (by simp [keyB_length, bigB_length]) (bigB_length _ _)
  have k6 : ((entB e ++ rest).drop 24).take 1 = [UInt8.ofNat e.count.toNat] := by
    rw [show entB e ++ rest = (keyB e.key ++ bigB (n64 e.fin) 8 ++ bigB e.addr.toNat 2 ++ bigB e.len.toNat 2) ++ [UInt8.ofNat e.count.toNat] ++ ([UInt8.ofNat e.codec.toNat] ++ (bigB e.crc 4 ++ rest)) by simp [entB, List.append_assoc]]
    exact seg _ _ _ _ _ (by simp [keyB_length, bigB_length]) rfl
  have k7 : ((entB e ++ rest).drop 25).take 1 = [UInt8.ofNat e.codec.toNat] := by
    rw [show entB e ++ rest = (keyB e.key ++ bigB (n64 e.fin) 8 ++ bigB e.addr.toNat 2 ++ bigB e.len.toNat 2 ++ [UInt8.ofNat e.count.toNat]) ++ [UInt8.ofNat e.codec.toNat] ++ (bigB e.crc 4 ++ rest) by simp [entB, List.append_assoc]]
    exact seg _ _ _ _ _ (by simp [keyB_length, bigB_length]) rfl
  have k8 : ((entB e ++ rest).drop 26).take 4 = bigB e.crc 4 := by
    rw [show entB e ++ rest = (keyB e.key ++ bigB (n64 e.fin) 8 ++ bigB e.addr.toNat 2 ++ bigB e.len.toNat 2 ++ [UInt8.ofNat e.count.toNat, UInt8.ofNat e.codec.toNat]) ++ bigB e.crc 4 ++ rest by simp [entB, List.append_assoc]]
    exact seg _ _ _ _ _ (by simp [keyB_length, bigB_length]) (bigB_length _ _)
  rw [entP, k1, k2, k3, k4, k5, k6, k7, k8, num_big, num_big, num_big, num_big, num_big, numB_one, numB_one, num_big, n64_mod, n64_mod, s64_n64 r1, s64_n64 r2, byte_of (by omega) (by omega), byte_of h7.1 (by omega)]
  obtain ⟨⟨a, b⟩, c, d, f, g, m, n⟩ := e
  simp only at h1 h3 h4 r3 ⊢
  congr 1
  · congr 1; omega
  · omega
  · omega
  · omega
theorem entsB_at (E : List ENT) (rest : List UInt8) : ∀ n i, i < n → ∃ more, (entsB E n ++ rest).drop (i * 30) = entB (E.getD i ent0) ++ more
  | n + 1, i, hi => by
    by_cases e : i = n
    · subst e
      refine ⟨rest, ?_⟩
      rw [entsB, List.append_assoc, ← entsB_length E i, List.drop_left]
    · obtain ⟨m, hm⟩ := entsB_at E (entB (E.getD n ent0) ++ rest) n i (by omega)
      exact ⟨m, by rw [entsB, List.append_assoc]; exact hm⟩
theorem leaf_spec {E : List ENT} (h : leafB E = true) : entsTo E E.length = true ∧ 1 ≤ E.length ∧ E.length ≤ 7 := by
  simp only [leafB, betw, Bool.and_eq_true, decide_eq_true_eq] at h
  exact ⟨h.1, by omega, by omega⟩
theorem putL_length (E : List ENT) : (putL E).length = 1 + E.length * 30 := by rw [putL, List.length_cons, entsB_length]; omega
theorem putI_length (K : List KEY) (D : List Int) : (putI K D).length = 1 + D.length * 14 := by rw [putI, List.length_cons, kidsB_length]; omega
theorem cnt_putL {E : List ENT} (h : E.length ≤ 255) : cntG (putL E) = E.length := by
  show (UInt8.ofNat E.length).toNat = _
  rw [UInt8.toNat_ofNat']; omega
theorem cnt_putI {K : List KEY} {D : List Int} (h : D.length ≤ 255) : cntG (putI K D) = D.length := by
  show (UInt8.ofNat D.length).toNat = _
  rw [UInt8.toNat_ofNat']; omega
theorem ents_back {E : List ENT} (h : leafB E = true) (hr : ∀ e ∈ E, entR e) : entsG (putL E) E.length = E := by
  obtain ⟨h1, h2, h3⟩ := leaf_spec h
  apply List.ext_getElem
  · rw [entsG_length]
  · intro i g1 g2
    have hgd : E.getD i ent0 = E[i] := by rw [List.getD_eq_getElem?_getD, List.getElem?_eq_getElem g2]; rfl
    have hk := entsTo_at h1 i g2
    rw [entAt, Bool.and_eq_true, hgd] at hk
    obtain ⟨m, hm⟩ := entsB_at E [] E.length i g2
    rw [List.append_nil, hgd] at hm
    simp only [entsG, List.getElem_map, List.getElem_range]
    rw [putL, show 1 + i * 30 = i * 30 + 1 by omega, List.drop_succ_cons, hm]
    exact ent_back _ _ hk.1 (hr _ (List.getElem_mem g2))
theorem get_putL {E : List ENT} (h : leafB E = true) (hr : ∀ e ∈ E, entR e) : getL (putL E) = (E, 0) := by
  obtain ⟨h1, h2, h3⟩ := leaf_spec h
  have hc := cnt_putL (E := E) (by omega)
  have hl := putL_length E
  have hb := ents_back h hr
  rw [getL, hc, hb, if_neg (by omega), if_pos ⟨h, rfl⟩]
theorem innerB_spec {ks : List KEY} {kids : List Int} (h : innerB ks kids = true) : keysTo ks ks.length = true ∧ kidsTo kids kids.length = true ∧ ks.length = kids.length ∧ 1 ≤ kids.length ∧ kids.length ≤ 16 := by
  simp only [innerB, betw, Bool.and_eq_true, decide_eq_true_eq] at h
  refine ⟨h.1.1.1, h.1.1.2, h.1.2, ?_, ?_⟩ <;> omega
theorem kidsB_at (K : List KEY) (D : List Int) (rest : List UInt8) : ∀ n i, i < n → ∃ more, (kidsB K D n ++ rest).drop (i * 14) = keyB (K.getD i (0, 0)) ++ bigB (D.getD i 0).toNat 2 ++ more
  | n + 1, i, hi => by
    by_cases e : i = n
    · subst e
      refine ⟨rest, ?_⟩
      rw [kidsB, List.append_assoc, ← kidsB_length K D i, List.drop_left]
    · obtain ⟨m, hm⟩ := kidsB_at K D (keyB (K.getD n (0, 0)) ++ bigB (D.getD n 0).toNat 2 ++ rest) n i (by omega)
      exact ⟨m, by rw [kidsB, List.append_assoc]; exact hm⟩
theorem keysTo_at' {ks : List KEY} : ∀ {n : Nat}, keysTo ks n = true → ∀ i, i < n → keyAt ks i = true
  | n + 1, h, i, hi => by
    rw [keysTo, Bool.and_eq_true] at h
    by_cases e : i = n
    · subst e; exact h.2
    · exact keysTo_at' h.1 i (by omega)
theorem kidsTo_at' {ks : List Int} : ∀ {n : Nat}, kidsTo ks n = true → ∀ i, i < n → kidAt ks i = true
  | n + 1, h, i, hi => by
    rw [kidsTo, Bool.and_eq_true] at h
    by_cases e : i = n
    · subst e; exact h.2
    · exact kidsTo_at' h.1 i (by omega)
theorem kid_back (k : KEY) (d : Int) (m : List UInt8) (hk : keyOk k = true) (hr : keyR k) (hd : 0 ≤ d ∧ d ≤ 65535) :
    ((numB ((keyB k ++ bigB d.toNat 2 ++ m).take 4) : Int), s64 (numB (((keyB k ++ bigB d.toNat 2 ++ m).drop 4).take 8))) = k ∧ (numB (((keyB k ++ bigB d.toNat 2 ++ m).drop 12).take 2) : Int) = d := by
  have hk' : 0 ≤ k.1 ∧ k.1 ≤ 4294967295 := by simpa [keyOk, betw] using hk
  have k1 : (keyB k ++ bigB d.toNat 2 ++ m).take 4 = bigB k.1.toNat 4 := by
    rw [show keyB k ++ bigB d.toNat 2 ++ m = bigB k.1.toNat 4 ++ (bigB (n64 k.2) 8 ++ (bigB d.toNat 2 ++ m)) by simp [keyB, List.append_assoc]]
    exact seg0 _ _ _ (bigB_length _ _)
  have k2 : ((keyB k ++ bigB d.toNat 2 ++ m).drop 4).take 8 = bigB (n64 k.2) 8 := by
    rw [show keyB k ++ bigB d.toNat 2 ++ m = bigB k.1.toNat 4 ++ bigB (n64 k.2) 8 ++ (bigB d.toNat 2 ++ m) by simp [keyB, List.append_assoc]]
    exact seg _ _ _ _ _ (bigB_length _ _) (bigB_length _ _)
  have k3 : ((keyB k ++ bigB d.toNat 2 ++ m).drop 12).take 2 = bigB d.toNat 2 := seg _ _ _ _ _ (keyB_length _) (bigB_length _ _)
  rw [k1, k2, k3, num_big, num_big, num_big, n64_mod, s64_n64 hr]
  refine ⟨Prod.ext ?_ rfl, ?_⟩
  · show ((k.1.toNat % 256 ^ 4 : Nat) : Int) = k.1; omega
  · omega
theorem inner_back {K : List KEY} {D : List Int} (h : innerB K D = true) (hr : ∀ k ∈ K, keyR k) : keysG (putI K D) D.length = K ∧ kidsG (putI K D) D.length = D := by
  obtain ⟨h1, h2, h3, h4, h5⟩ := innerB_spec h
  have key : ∀ i (g1 : i < K.length) (g2 : i < D.length), keyG (putI K D) i = K[i] ∧ kidG (putI K D) i = D[i] := fun i g1 g2 => by
    have hgk : K.getD i (0, 0) = K[i] := by rw [List.getD_eq_getElem?_getD, List.getElem?_eq_getElem g1]; rfl
    have hgd : D.getD i 0 = D[i] := by rw [List.getD_eq_getElem?_getD, List.getElem?_eq_getElem g2]; rfl
    have hk := keysTo_at' h1 i g1
    have hd := kidsTo_at' h2 i g2
    rw [keyAt, Bool.and_eq_true, hgk] at hk
    rw [kidAt, Bool.and_eq_true, hgd] at hd
    have hd' : 2 ≤ D[i] ∧ D[i] ≤ 511 := by simpa [betw] using hd.1
    obtain ⟨m, hm⟩ := kidsB_at K D [] D.length i g2
    rw [List.append_nil, hgk, hgd] at hm
    have hb := kid_back K[i] D[i] m hk.1 (hr _ (List.getElem_mem g1)) ⟨by omega, by omega⟩
    rw [← hm] at hb
    have hdr : ∀ j, (putI K D).drop (1 + j) = (kidsB K D D.length).drop j := fun j => by rw [putI, Nat.add_comm, List.drop_succ_cons]
    have e1 : (putI K D).drop (1 + i * 14) = (kidsB K D D.length).drop (i * 14) := hdr _
    have e2 : (putI K D).drop (5 + i * 14) = ((kidsB K D D.length).drop (i * 14)).drop 4 := by rw [show 5 + i * 14 = 1 + (i * 14 + 4) by omega, hdr, List.drop_drop]
    have e3 : (putI K D).drop (13 + i * 14) = ((kidsB K D D.length).drop (i * 14)).drop 12 := by rw [show 13 + i * 14 = 1 + (i * 14 + 12) by omega, hdr, List.drop_drop]
    rw [keyG, kidG, e1, e2, e3]
    exact hb
  constructor
  · apply List.ext_getElem
    · rw [keysG, List.length_map, List.length_range, h3]
    · intro i g1 g2
      simp only [keysG, List.getElem_map, List.getElem_range]
      exact (key i g2 (by omega)).1
  · apply List.ext_getElem
    · rw [kidsG, List.length_map, List.length_range]
    · intro i g1 g2
      simp only [kidsG, List.getElem_map, List.getElem_range]
      exact (key i (by omega) g2).2
theorem get_putI {K : List KEY} {D : List Int} (h : innerB K D = true) (hr : ∀ k ∈ K, keyR k) : getI (putI K D) = ((K, D), 0) := by
  obtain ⟨h1, h2, h3, h4, h5⟩ := innerB_spec h
  have hc := cnt_putI (K := K) (D := D) (by omega)
  have hl := putI_length K D
  obtain ⟨b1, b2⟩ := inner_back h hr
  rw [getI, hc, b1, b2, if_neg (by omega), if_pos ⟨h, rfl⟩]
end Go.Gv
end
