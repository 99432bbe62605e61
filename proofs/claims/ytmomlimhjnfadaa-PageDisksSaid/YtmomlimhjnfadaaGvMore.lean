/- More rules: what is built, cut, made, appended to, copied; texts; comparisons. -/
import Derived.Test.YtmomlimhjnfadaaGvBits
namespace Go.Gv
open Go Go.RowKit
set_option linter.unusedVariables false
set_option linter.unusedSimpArgs false

/-- memory that reads so, and is nobody else's -/
def ro (v : Value) (n : Nat) (xs : List Value) : Atom := fun h => Rd h v n xs

theorem own_of_blk {b : Nat} {e : TypeId} {size n : Nat} {xs : List Value} (hl : xs.length = n * size) (hn : n ≤ 9223372036854775807) (h : PH) (hb : blk b e xs h) : own e size (.slice (some ⟨b, 0, none⟩) n n) n xs h :=
  ⟨hl, .inr ⟨b, n, xs.toArray, rfl, hb, Nat.le_refl _, by unfold maxLen; omega, by simp [hl], by simp [← hl]⟩⟩

theorem take_append_drop_size {α : Type} (l : List α) (k : Nat) : l.take k ++ l.drop k = l := List.take_append_drop k l

/-- an owned row, seen as its block -/
theorem own_blk {e : TypeId} {size n : Nat} {v : Value} {xs : List Value} {h : PH} (ho : own e size v n xs h) (hn : 0 < n) : ∃ g cap cur, v = .slice (some ⟨g, 0, none⟩) n cap ∧ blk g e cur h ∧ n ≤ cap ∧ cap ≤ maxLen ∧ cur.length = cap * size ∧ cur.take (n * size) = xs := by
  rcases ho.2 with ⟨_, h0⟩ | ⟨g, cap, cur, h1, h2, h3, h4, h5, h6⟩
  · omega
  · exact ⟨g, cap, cur.toList, h1, by simpa [blk] using h2, h3, h4, by simpa using h5, h6⟩

section
variable {P : Program} {w0 : World} {n : NT} {L : Slots} {H H' : List Atom} {Q : Exit → Act → World → Prop} {K : Act → World → Prop} {o : Oper} {d : Nat}
variable {ty : TypeId} {pos : String} {aft : Array Edge} {g : Option (Nat × Bool)}

/-! bools, pointers -/
theorem o_eqlB {t1 t2 : TypeId} {x y : Operand} {a b : Bool} [ht : TBool P t1] (hx : ev L x = some (.bool a)) (hy : ev L y = some (.bool b)) (hn : Nat.blt d n = true) (k : Tri w0 K n ((d, .bool (a == b)) :: L) H) :
    Tri w0 (OpG P ⟨some d, .binOp .eql t1 x y t2, ty, pos, aft, g⟩ K Q) n L H :=
  Tri.val rfl hn _ (fun c w ha _ => by simp [execOp, ha.eval hx, ha.eval hy, run_eql_bool w t1 a b ht.ok, eqGuard_at_bool]) k
theorem o_neqB {t1 t2 : TypeId} {x y : Operand} {a b : Bool} [ht : TBool P t1] (hx : ev L x = some (.bool a)) (hy : ev L y = some (.bool b)) (hn : Nat.blt d n = true) (k : Tri w0 K n ((d, .bool (!(a == b))) :: L) H) :
    Tri w0 (OpG P ⟨some d, .binOp .neq t1 x y t2, ty, pos, aft, g⟩ K Q) n L H :=
  Tri.val rfl hn _ (fun c w ha _ => by simp [execOp, ha.eval hx, ha.eval hy, run_neq_bool w t1 a b ht.ok, eqGuard_at_bool]) k
theorem o_eqlN {t1 t2 : TypeId} {x y : Operand} {a : Option Addr} [ht : TPtr P t1] (hx : ev L x = some (.pointer a)) (hy : ev L y = some (.pointer none)) (hn : Nat.blt d n = true) (k : Tri w0 K n ((d, .bool a.isNone) :: L) H) :
    Tri w0 (OpG P ⟨some d, .binOp .eql t1 x y t2, ty, pos, aft, g⟩ K Q) n L H :=
  Tri.val rfl hn _ (fun b w ha _ => by simp [execOp, ha.eval hx, ha.eval hy, run_eql_pointer_nil w t1 a ht.ok, eqGuard_at_pointer]) k
theorem o_neqN {t1 t2 : TypeId} {x y : Operand} {a : Option Addr} [ht : TPtr P t1] (hx : ev L x = some (.pointer a)) (hy : ev L y = some (.pointer none)) (hn : Nat.blt d n = true) (k : Tri w0 K n ((d, .bool (!a.isNone)) :: L) H) :
    Tri w0 (OpG P ⟨some d, .binOp .neq t1 x y t2, ty, pos, aft, g⟩ K Q) n L H :=
  Tri.val rfl hn _ (fun b w ha _ => by simp [execOp, ha.eval hx, ha.eval hy, run_neq_pointer_nil w t1 a ht.ok, eqGuard_at_pointer]) k

/-! texts -/
theorem str_beq (a b : ByteArray) : (a.toList == b.toList) = decide (a = b) := by
  rw [Bool.eq_iff_iff, beq_iff_eq, decide_eq_true_iff, ByteArray.toList_eq, ByteArray.toList_eq]
  constructor
  · intro h
    cases a; cases b
    simp only [ByteArray.mk.injEq]
    exact Array.toList_inj.1 h
  · rintro rfl; rfl
theorem o_eqlS {t1 t2 : TypeId} {x y : Operand} {a b : ByteArray} (hx : ev L x = some (.string a)) (hy : ev L y = some (.string b)) (hn : Nat.blt d n = true) (k : Tri w0 K n ((d, .bool (decide (a = b))) :: L) H) :
    Tri w0 (OpG P ⟨some d, .binOp .eql t1 x y t2, ty, pos, aft, g⟩ K Q) n L H :=
  Tri.val rfl hn _ (fun c w ha _ => by simp only [execOp, ha.eval hx, ha.eval hy]; simp [eqGuard_at_string, binOp_string_eql, str_beq]) k
theorem o_neqS {t1 t2 : TypeId} {x y : Operand} {a b : ByteArray} (hx : ev L x = some (.string a)) (hy : ev L y = some (.string b)) (hn : Nat.blt d n = true) (k : Tri w0 K n ((d, .bool (decide (¬ a = b))) :: L) H) :
    Tri w0 (OpG P ⟨some d, .binOp .neq t1 x y t2, ty, pos, aft, g⟩ K Q) n L H :=
  Tri.val rfl hn _ (fun c w ha _ => by simp only [execOp, ha.eval hx, ha.eval hy]; simp [eqGuard_at_string, binOp_string_neq, str_beq]) k

/-! min and max -/
theorem o_min {ts : Array TypeId} {x y : Operand} {ik jk : IntKind} {i j : Int} (hx : ev L x = some (.int ik i)) (hy : ev L y = some (.int jk j)) (hn : Nat.blt d n = true) (k : Tri w0 K n ((d, .int ik (min i j)) :: L) H) :
    Tri w0 (OpG P ⟨some d, .call { callee := .builtin .min, args := #[x, y], argTypes := ts }, ty, pos, aft, g⟩ K Q) n L H :=
  Tri.val rfl hn _ (fun a w ha _ => by
    have e : (if j < i then j else i) = min i j := by split <;> omega
    simp [execOp, resolve, invoke, builtin, ha.eval hx, ha.eval hy, Builtin.min_, Builtin.min2, e]) k
theorem o_max {ts : Array TypeId} {x y : Operand} {ik jk : IntKind} {i j : Int} (hx : ev L x = some (.int ik i)) (hy : ev L y = some (.int jk j)) (hn : Nat.blt d n = true) (k : Tri w0 K n ((d, .int ik (max i j)) :: L) H) :
    Tri w0 (OpG P ⟨some d, .call { callee := .builtin .max, args := #[x, y], argTypes := ts }, ty, pos, aft, g⟩ K Q) n L H :=
  Tri.val rfl hn _ (fun a w ha _ => by
    have e : (if i < j then j else i) = max i j := by split <;> omega
    simp [execOp, resolve, invoke, builtin, ha.eval hx, ha.eval hy, Builtin.max_, Builtin.max2, e]) k

/-! append -/
theorem St.grown {w w' : World} {e : TypeId} {size m m' : Nat} {v v' : Value} {xs xs' : List Value} (hw : St w0 w (own e size v m xs :: H)) (ho : w'.ownsRow 0 e size v' m' xs') (hv : v'.ownBlock = v.ownBlock ∨ ∀ b, v'.ownBlock = some b → w.heap.size ≤ b) (hg : w.grownBy w' v.ownBlock) : St w0 w' (own e size v' m' xs' :: H) := by
  refine hw.upd ⟨hg.os, hg.tape, hg.output, hg.size⟩ (fun s hs hA => ?_)
  have hblk : ∀ b, v.ownBlock = some b → s b := by
    intro b hb
    rcases hA.2 with ⟨rfl, _⟩ | ⟨g, cap, cur, rfl, h2, _⟩
    · simp [Value.ownBlock] at hb
    · simp [Value.ownBlock] at hb; subst hb; exact (res_some h2).1
  refine ⟨?_, fun b hb hl => hg.block b hl (fun e => hb (hblk b e.symm))⟩
  have hb : ∀ b, v'.ownBlock = some b → s b ∨ w.heap.size ≤ b := by
    intro b hb
    rcases hv with hv | hv
    · exact .inl (hblk b (hv ▸ hb))
    · exact .inr (hv b hb)
  rcases ho.2 with ⟨rfl, rfl⟩ | ⟨g, cap, cur, rfl, h1, h2, h3, h4, h5, h6⟩
  · exact ⟨fun _ => False, fun _ h => h.elim, ho.1, .inl ⟨rfl, rfl⟩⟩
  · refine ⟨fun b => b = g, fun b e => ?_, ho.1, .inr ⟨g, cap, cur, rfl, ?_, h3, h4, h5, h6⟩⟩
    · subst e
      exact ⟨(Array.getElem?_eq_some_iff.1 h2).1, hb b rfl⟩
    · unfold res; simp only [if_true]; exact h2

theorem Rd.cellW {w : World} {a : Addr} {m c : Nat} {xs : List Value} (hr : RdW w (.slice (some a) m c) m xs) : ∀ j y, xs[j]? = some y → w.cell? (a.add j) = some y := by
  obtain ⟨A, c', hv, hc, hcell⟩ := hr
  cases hv
  intro j y hy
  obtain ⟨a', ha', cs, T, fr, g1, g2, g3⟩ := hcell j y hy
  cases ha'
  have hbb : (a.add j).block = a.block := by unfold Addr.add; split <;> rfl
  have g1' : w.heap[a.block]? = some (.cells cs T fr) := g1
  simp only [World.cell?, hbb, g1', g2, Option.isSome_none, Bool.false_eq_true, if_false]
  exact g3

theorem TElem.get {e : TypeId} {size bytes : Nat} {z : List Value} (he : TElem P e size bytes z) : ∃ i z0, P.info? e = some i ∧ i.zero = some z0 ∧ i.size = size ∧ i.bytes = bytes ∧ z0.cells.toList = z ∧ z0.cells.size = size ∧ 0 < size ∧ size ≤ bytes ∧ bytes ≤ 65536 := by
  have hok := he.ok; have hpos := he.pos
  cases hi : P.info? e with
  | none => simp [hi] at hok
  | some i =>
    cases hz : i.zero with
    | none => simp [hi, hz] at hok
    | some z0 =>
      simp [hi, hz] at hok
      obtain ⟨hsz, hby, hzz⟩ := hok
      simp only [Bool.and_eq_true, Nat.blt_eq, Nat.ble_eq, Nat.beq_eq_true_eq] at hpos
      obtain ⟨⟨⟨p1, p2⟩, p3⟩, p4⟩ := hpos
      exact ⟨i, z0, rfl, hz, hsz, hby, hzz, by rw [← Array.length_toList, hzz, Nat.eq_of_beq_eq_true p3], p1, p2, p4⟩

theorem ownsRow_new {w : World} {e : TypeId} {size bytes m old : Nat} {z0 : Value} {xs : List Value} (hzs : z0.cells.size = size) (hl : xs.length = m * size) (h63 : m ≤ maxLen) :
    (w.drew.alloc (.cells (xs.toArray ++ Builtin.zeroCells z0.cells (grownCap w m old e - m)) e)).ownsRow 0 e size (.slice (some ⟨w.heap.size, 0, none⟩) m (grownCap w m old e)) m xs := by
  have hge := grownCap_ge w m old e
  refine ⟨hl, .inr ⟨w.heap.size, _, _, rfl, Nat.zero_le _, heap_alloc_new w.drew _, hge, grownCap_le_maxLen w m old e h63, ?_, ?_⟩⟩
  · simp only [Array.size_append, List.size_toArray, size_zeroCells, hzs, hl, ← Nat.add_mul]
    congr 1; omega
  · simp only [Array.toList_append, ← hl]
    exact List.take_left

theorem append_run {t e ty : TypeId} {size bytes : Nat} {z : List Value} [ht : TSlice P t e] [he : TElem P e size bytes z] {w : World} {v u : Value} {m1 m2 : Nat} {xs news : List Value} (ho : w.ownsRow 0 e size v m1 xs) (hr : RdW w u m2 news) (hl : news.length = m2 * size) (h1 : ∀ y ∈ news, y.oneCell' = true) (hb : (m1 + m2) * bytes ≤ 140737488355328) :
    ∃ v' w', (Builtin.append_ #[t, t] ty #[v, u]).run P w = .ok v' w' ∧ w.grownBy w' v.ownBlock ∧ (v'.ownBlock = v.ownBlock ∨ ∀ b, v'.ownBlock = some b → w.heap.size ≤ b) ∧ w'.ownsRow 0 e size v' (m1 + m2) (xs ++ news) := by
  obtain ⟨i, z0, hi, hz, hsz, hby, hzz, hzs, p1, p2, p4⟩ := he.get
  have hm : (m1 + m2) * 1 ≤ (m1 + m2) * bytes := Nat.mul_le_mul_left _ (by omega)
  have h63 : m1 + m2 ≤ maxLen := by unfold maxLen; omega
  have hlen : (xs ++ news).length = (m1 + m2) * size := by rw [List.length_append, ho.1, hl, Nat.add_mul]
  obtain ⟨A, c, rfl, hc, _⟩ := id hr
  have same : w.grownBy w v.ownBlock := ⟨rfl, rfl, rfl, Nat.le_refl _, fun _ _ _ => rfl⟩
  cases A with
  | none =>
    have hn : news = [] := by
      obtain ⟨A', c', hv', _, hcell⟩ := hr
      cases hv'
      cases news with
      | nil => rfl
      | cons y ys => obtain ⟨a, ha, _⟩ := hcell 0 y rfl; cases ha
    subst hn
    have hm : m2 = 0 := by
      rcases Nat.eq_zero_or_pos m2 with h | h
      · exact h
      · have : 0 < m2 * size := Nat.mul_pos h p1
        simp at hl; omega
    subst hm
    rcases ho.2 with ⟨rfl, rfl⟩ | ⟨gg, cap, cur, rfl, hb1, hb2, hb3, hb4, hb5, hb6⟩
    · refine ⟨_, w, ?_, same, .inl rfl, by simpa using ho⟩
      simp [Builtin.append_, run_underlying ht.ok, sizeOf, typeInfo, hi, Builtin.lenOf, Builtin.firstCells, loadCells, loadCellsFrom]
    · refine ⟨_, w, ?_, same, .inl rfl, by simpa using ho⟩
      simp [Builtin.append_, run_underlying ht.ok, sizeOf, typeInfo, hi, Builtin.lenOf, Builtin.firstCells, loadCells, loadCellsFrom, hb3, storeCells]
  | some a =>
    have hnews := Rd.cellW hr
    rcases ho.2 with ⟨rfl, rfl⟩ | ⟨gg, cap, cur, rfl, hb1, hb2, hb3, hb4, hb5, hb6⟩
    · have hx : xs = [] := List.eq_nil_of_length_eq_zero (by simpa using ho.1)
      subst hx
      by_cases hm0 : m2 = 0
      · subst hm0
        have hn : news = [] := List.eq_nil_of_length_eq_zero (by simpa using hl)
        subst hn
        refine ⟨_, w, ?_, same, .inl rfl, by simpa using ho⟩
        simp [Builtin.append_, run_underlying ht.ok, sizeOf, typeInfo, hi, Builtin.lenOf, Builtin.firstCells, loadCells, loadCellsFrom]
      · have hrun := run_append_nil (P := P) w t ty e i z0 ht.ok hi hz a m2 c news (by rw [hsz]; exact hl) hnews (by omega) (by unfold maxLen at h63; omega) (by rw [hby]; simp only [Nat.zero_add] at hb; omega)
        refine ⟨_, _, hrun, ⟨rfl, rfl, rfl, by simp, fun k hk _ => Below.heap_alloc w.drew _ k hk⟩, .inr (fun b hb => by simp [Value.ownBlock] at hb; omega), ?_⟩
        simp only [Nat.zero_add, List.nil_append]
        exact ownsRow_new (bytes := bytes) hzs hl (by omega)
    · by_cases hroom : m1 + m2 ≤ cap
      · have hfit : m1 * i.size + news.length ≤ cur.size := by rw [hl, hb5, hsz, ← Nat.add_mul]; exact Nat.mul_le_mul_right _ hroom
        have hrun := run_append_room (P := P) w t ty e i ht.ok hi gg m1 cap cur hb2 a m2 c news (by rw [hsz]; exact hl) hnews h1 hroom hfit
        refine ⟨_, _, hrun, ⟨rfl, rfl, rfl, by simp, fun k _ hk => setRow_other w gg k _ (fun e => hk (by simp [Value.ownBlock, e]))⟩, .inl rfl, hlen, .inr ⟨gg, cap, _, rfl, Nat.zero_le _, setRow_heap w gg cur _ e _ hb2, hroom, hb4, ?_, ?_⟩⟩
        · simp only [List.size_toArray, List.length_append, List.length_take, List.length_drop, Array.length_toList, hsz] at hfit ⊢
          omega
        · rw [hsz, hb6, ← hlen]
          exact List.take_left
      · have holds : ∀ j u, xs[j]? = some u → w.cell? ((⟨gg, 0, none⟩ : Addr).add j) = some u := ho.cells (g := gg) rfl
        have hrun := run_append_grow (P := P) w t ty e i z0 ht.ok hi hz ⟨gg, 0, none⟩ m1 cap xs (by rw [hsz]; exact ho.1) holds a m2 c news (by rw [hsz]; exact hl) hnews (by omega) (by unfold maxLen at h63; omega) (growslice_fits (by omega) (by rw [hby]; exact hb))
        refine ⟨_, _, hrun, ⟨rfl, rfl, rfl, by simp, fun k hk _ => Below.heap_alloc w.drew _ k hk⟩, .inr (fun b hb => by simp [Value.ownBlock] at hb; omega), ?_⟩
        have := ownsRow_new (w := w) (e := e) (bytes := bytes) (old := cap) hzs hlen h63
        simpa using this

theorem o_append {t e : TypeId} {size bytes : Nat} {z : List Value} [TSlice P t e] [TElem P e size bytes z] {s x : Operand} {v u : Value} {m1 m2 : Nat} {xs news : List Value} (hx : ev L s = some v) (hy : ev L x = some u) (p : Pull H (own e size v m1 xs) H') (hr : ∀ w, St w0 w H → RdW w u m2 news) (hl : news.length = m2 * size) (h1 : ∀ y ∈ news, y.oneCell' = true) (hb : (m1 + m2) * bytes ≤ 140737488355328) (hn : Nat.blt d n = true)
    (k : ∀ v', Tri w0 K n ((d, v') :: L) (own e size v' (m1 + m2) (xs ++ news) :: H')) :
    Tri w0 (OpG P ⟨some d, .call { callee := .builtin .append, args := #[s, x], argTypes := #[t, t] }, ty, pos, aft, g⟩ K Q) n L H :=
  Tri.valW rfl hn (fun a w ha hw => by
    obtain ⟨s', hA⟩ := (hw.pull p).2.head
    obtain ⟨v', w', q1, q2, q3, q4⟩ := append_run (P := P) (t := t) (ty := ty) (own_row hA) (hr w hw) hl h1 hb
    refine ⟨v', w', ?_, fun a' ha' => k v' a' w' ha' (St.grown (hw.pull p) q4 q3 q2)⟩
    simp [execOp, resolve, invoke, builtin, ha.eval hx, ha.eval hy, q1])

/-! what is made -/
theorem makeSlice_cells {z0 : Value} {m : Nat} {zc : Value} (hz : z0.cells.toList = [zc]) : (madeCells z0.cells m) = (List.replicate m zc).toArray := by
  have hz' : z0.cells = #[zc] := by rw [← Array.toArray_toList (xs := z0.cells), hz]
  unfold madeCells
  rw [hz']
  apply Array.ext
  · simp
  · intro i h1 h2
    have : i % 1 = 0 := Nat.mod_one i
    simp [this]

theorem o_make1 {t e : TypeId} {bytes : Nat} {zc : Value} {x y : Operand} {ik jk : IntKind} {i j : Int} {m : Nat} [ht : TSlice P t e] [he : TElem P e 1 bytes [zc]] (hx : ev L x = some (.int ik i)) (hy : ev L y = some (.int jk j)) (hi : i = (m : Int)) (hj : j = (m : Int)) (hb : m * bytes ≤ 140737488355328) (hn : Nat.blt d n = true)
    (k : ∀ b, Tri w0 K n ((d, .slice (some ⟨b, 0, none⟩) m m) :: L) (blk b e (List.replicate m zc) :: H)) :
    Tri w0 (OpG P ⟨some d, .makeSlice t x y, ty, pos, aft, g⟩ K Q) n L H :=
  Tri.valW rfl hn (fun a w ha hw => by
    obtain ⟨i0, z0, hi0, hz, hsz, hby, hzz, hzs, p1, p2, p4⟩ := he.get
    subst hi; subst hj
    have hm : m * 1 ≤ m * bytes := Nat.mul_le_mul_left _ (by omega)
    have hmb : m * bytes = bytes * m := Nat.mul_comm _ _
    have hbb : (i0.bytes : Int) * (m : Int) ≤ 281474976710656 := by rw [hby, ← Int.natCast_mul]; omega
    have hrun := run_make (P := P) w t e i0 z0 ht.ok hi0 hz ik jk (m : Int) (m : Int) (by omega) (by omega) hbb (by omega)
    rw [hsz, Int.toNat_natCast, Nat.mul_one, makeSlice_cells hzz] at hrun
    refine ⟨_, w.alloc (.cells (List.replicate m zc).toArray e), ?_, fun a' ha' => k w.heap.size a' _ ha' (hw.alloc _ _ (fun h hh => hh))⟩
    simp only [execOp, ha.eval hx, ha.eval hy, Sem.run_bind, hrun, Result.andThen_ok, Sem.run_pure])

/-! cuts -/
theorem slice_run {T e : TypeId} {size : Nat} [hT : TSlice P T e] [hs : TSize P e size] {w : World} {A : Option Addr} {m c lo hi : Nat} {ol oh : Option Value} (hlo : (∃ ik, ol = some (.int ik (lo : Int))) ∨ ol = none ∧ lo = 0) (hhi : (∃ jk, oh = some (.int jk (hi : Int))) ∨ oh = none ∧ hi = m) (h1 : lo ≤ hi) (h2 : hi ≤ c) :
    (Instr.sliceAt T (.slice A m c) ol oh none).run P w = .ok (.slice (if c = lo then A else A.map (·.add (lo * size))) (hi - lo) (c - lo)) w := by
  have b2 : (0 : Int) ≤ lo ∧ (lo : Int) ≤ hi := by omega
  have b1 : (0 : Int) ≤ hi ∧ (hi : Int) ≤ c := by omega
  rcases hlo with ⟨ik, rfl⟩ | ⟨rfl, rfl⟩ <;> rcases hhi with ⟨jk, rfl⟩ | ⟨rfl, rfl⟩ <;>
    simp [Instr.sliceAt, Instr.slice, run_underlying hT.ok, Instr.sliceBounds, Instr.sliceBound, asIntOf, size_run hs.ok, b1, b2, h1, h2]
/-- a cut, as a value -/
def subv (v : Value) (size lo hi : Nat) : Value := match v with
  | .slice A _ c => .slice (if c = lo then A else A.map (·.add (lo * size))) (hi - lo) (c - lo)
  | _ => undef
theorem Rd.subv {h : PH} {v : Value} {n : Nat} {xs : List Value} (hr : Rd h v n xs) {size lo hi : Nat} (h1 : lo ≤ hi) (h2 : hi ≤ n) : Rd h (subv v size lo hi) (hi - lo) ((xs.drop (lo * size)).take ((hi - lo) * size)) := by
  obtain ⟨A, c, rfl, _⟩ := id hr
  exact hr.sub h1 h2 A c rfl
theorem o_slice {T e : TypeId} {size : Nat} {x : Operand} {ol oh : Option Operand} {v : Value} {m lo hi : Nat} {xs : List Value} {vl vh : Option Value} [hT : TSlice P T e] [hs : TSize P e size] (hx : ev L x = some v) (hr : ∀ w, St w0 w H → RdW w v m xs) (hol : ∀ a, Has a n L → ol.map a.eval = vl) (hoh : ∀ a, Has a n L → oh.map a.eval = vh) (hlo : (∃ ik, vl = some (.int ik (lo : Int))) ∨ vl = none ∧ lo = 0) (hhi : (∃ jk, vh = some (.int jk (hi : Int))) ∨ vh = none ∧ hi = m) (hlh : lo ≤ hi) (hhm : hi ≤ m) (hn : Nat.blt d n = true)
    (k : Tri w0 K n ((d, subv v size lo hi) :: L) H) :
    Tri w0 (OpG P ⟨some d, .slice T x ol oh none, ty, pos, aft, g⟩ K Q) n L H := by
  refine Tri.val rfl hn _ (fun a w ha hw => ?_) k
  obtain ⟨A, c, rfl, hc, _⟩ := id (hr w hw)
  simp [execOp, ha.eval hx, hol a ha, hoh a ha, slice_run (P := P) (T := T) (e := e) (size := size) (w := w) (A := A) (m := m) (c := c) hlo hhi hlh (by omega), subv]
/-- a cut of a slice whose place is known -/
theorem o_sliceB {T e : TypeId} {size : Nat} {x : Operand} {ol oh : Option Operand} {b o' m c lo hi : Nat} {vl vh : Option Value} [hT : TSlice P T e] [hs : TSize P e size] (hx : ev L x = some (.slice (some ⟨b, o', none⟩) m c)) (hol : ∀ a, Has a n L → ol.map a.eval = vl) (hoh : ∀ a, Has a n L → oh.map a.eval = vh) (hlo : (∃ ik, vl = some (.int ik (lo : Int))) ∨ vl = none ∧ lo = 0) (hhi : (∃ jk, vh = some (.int jk (hi : Int))) ∨ vh = none ∧ hi = m) (hlh : lo ≤ hi) (hhm : hi ≤ c) (hne : lo < c) (hn : Nat.blt d n = true)
    (k : Tri w0 K n ((d, .slice (some ⟨b, o' + lo * size, none⟩) (hi - lo) (c - lo)) :: L) H) :
    Tri w0 (OpG P ⟨some d, .slice T x ol oh none, ty, pos, aft, g⟩ K Q) n L H := by
  refine Tri.val rfl hn _ (fun a w ha _ => ?_) k
  have hne' : c ≠ lo := by omega
  simp [execOp, ha.eval hx, hol a ha, hoh a ha, slice_run (P := P) (T := T) (e := e) (size := size) (w := w) (A := some ⟨b, o', none⟩) (m := m) (c := c) hlo hhi hlh hhm, hne', Addr.add_lit]

/-! copy -/
theorem o_copyB {t e T' : TypeId} {x y : Operand} {b o' dl dc : Nat} {u : Value} {m q : Nat} {cur news : List Value} [ht : TSlice P t e] [hs : TSize P e 1] (hx : ev L x = some (.slice (some ⟨b, o', none⟩) dl dc)) (hy : ev L y = some u) (p : Pull H (blk b T' cur) H') (hr : ∀ w, St w0 w H → RdW w u m news) (hl : news.length = m) (hq : q = min m dl) (hfit : o' + q ≤ cur.length) (h1 : ∀ y ∈ news, y.oneCell' = true) (hn : Nat.blt d n = true)
    (k : Tri w0 K n ((d, .int .i64 (q : Int)) :: L) (blk b T' (cur.take o' ++ news.take q ++ cur.drop (o' + q)) :: H')) :
    Tri w0 (OpG P ⟨some d, .call { callee := .builtin .copy, args := #[x, y], argTypes := #[t, t] }, ty, pos, aft, g⟩ K Q) n L H :=
  Tri.valW rfl hn (fun a w ha hw => by
    have hb := St.blk hw p
    obtain ⟨A, c, rfl, hc, _⟩ := id (hr w hw)
    cases A with
    | none =>
      have hnil : news = [] := by
        obtain ⟨A', c', hv', _, hcell⟩ := hr w hw
        cases hv'
        cases news with
        | nil => rfl
        | cons y ys => obtain ⟨a, ha, _⟩ := hcell 0 y rfl; cases ha
      subst hnil
      simp at hl; subst hl
      have hq0 : q = 0 := by omega
      subst hq0
      refine ⟨_, w, ?_, fun a' ha' => k a' w ha' (by simpa using hw.pull p)⟩
      have hsz := size_run (P := P) hs.ok w
      simp [execOp, resolve, invoke, builtin, ha.eval hx, ha.eval hy, Builtin.copy_, run_underlying ht.ok, Builtin.lenOf, Builtin.firstCells, hsz, storeCells, goInt]
    | some ad =>
      have hnews := Rd.cellW (hr w hw)
      have hlen : (news.take q).length = Nat.min m dl := by rw [List.length_take, hl, hq]; show min (min m dl) m = min m dl; omega
      have hrun := run_copy_row (P := P) w t t ty e b o' dl dc ad m c cur.toArray T' (news.take q) ht.ok hs.ok hb hlen
        (fun j v hj => hnews j v (by rw [List.getElem?_take] at hj; split at hj; exact hj; cases hj)) (by rw [hlen]; simp; show o' + min m dl ≤ _; omega) (fun v hv => h1 v (List.mem_of_mem_take hv))
      have hql : (news.take q).length = q := by rw [hlen]; exact hq.symm
      rw [hql] at hrun
      refine ⟨_, _, ?_, fun a' ha' => k a' _ ha' (upd_row (hw.pull p) _)⟩
      simp [execOp, resolve, invoke, builtin, ha.eval hx, ha.eval hy, hrun, goInt])

/-! bytes as a text -/
theorem o_bytesStr {s t e : TypeId} {x : Operand} {u : Value} {l : List UInt8} [hs : TSlice P s e] (he : P.underlying e = some (.int .u8)) [ht : TStr P t] (hx : ev L x = some u) (hr : ∀ w, St w0 w H → RdW w u l.length (l.map fun c => .int .u8 (c.toNat : Int))) (hn : Nat.blt d n = true) (k : Tri w0 K n ((d, .string ⟨l.toArray⟩) :: L) H) :
    Tri w0 (OpG P ⟨some d, .convert s t x, ty, pos, aft, g⟩ K Q) n L H :=
  Tri.val rfl hn _ (fun a w ha hw => by
    obtain ⟨A, c, rfl, hc, _⟩ := id (hr w hw)
    cases A with
    | none =>
      have hnil : l = [] := by
        obtain ⟨A', c', hv', _, hcell⟩ := hr w hw
        cases hv'
        cases l with
        | nil => rfl
        | cons y ys => obtain ⟨a, ha, _⟩ := hcell 0 _ rfl; cases ha
      subst hnil
      simp [execOp, ha.eval hx, convert, run_underlying hs.ok, run_underlying ht.ok, run_underlying he, Conv.bytesToString]; rfl
    | some ad =>
      have hcell := Rd.cellW (hr w hw)
      have hrun := run_convert_bytes_back (P := P) w s t e ad c l hs.ok he ht.ok (fun j hj => hcell j _ (by simp [hj]))
      simp [execOp, ha.eval hx, hrun]) k

/-- a slice of bytes, converted to itself: from here on it is only read -/
theorem o_convSS {s e : TypeId} {x : Operand} {v : Value} {m size : Nat} {xs : List Value} [hs : TSlice P s e] (he : P.underlying e = some (.int .u8)) (hx : ev L x = some v) (p : Pull H (own e size v m xs) H') (hm : 0 < m) (hn : Nat.blt d n = true) (k : Tri w0 K n ((d, v) :: L) (ro v m xs :: H')) :
    Tri w0 (OpG P ⟨some d, .convert s s x, ty, pos, aft, g⟩ K Q) n L H :=
  Tri.valW rfl hn (fun a w ha hw => by
    obtain ⟨s', hA⟩ := (hw.pull p).2.head
    rcases hA.2 with ⟨_, h0⟩ | ⟨g', cap, cur, rfl, h2, h3, h4, h5, h6⟩
    · omega
    · have hg := (res_some h2).2
      have hlt : g' < w.heap.size := (Array.getElem?_eq_some_iff.1 hg).1
      have hsh : w.shape? g' = some (e, cur.size) := by simp [World.shape?, hg]
      refine ⟨_, w.freeze ⟨g', cur.size, none⟩ 1, ?_, fun a' ha' => k a' _ ha' ?_⟩
      · simp only [execOp, ha.eval hx, convert, Sem.run_bind, run_underlying hs.ok, run_underlying he, Result.andThen_ok]
        have hs1 : (Sem.shape g' Sem.pure).run P w = .ok (w.shape? g') w := rfl
        simp [markStringish, shape, freeze, run_underlying he]
        rw [hs1, hsh]; rfl
      · have hfz : (w.freeze ⟨g', cur.size, none⟩ 1).heap[g']? = some (.cells cur e (cur.size, cur.size + 1)) := by
          unfold World.freeze
          simp only [Nat.one_ne_zero, if_false, Array.getElem?_modify, if_true, hg, Option.map_some]
          rfl
        have hother : ∀ b, b ≠ g' → (w.freeze ⟨g', cur.size, none⟩ 1).heap[b]? = w.heap[b]? := by
          intro b hb
          unfold World.freeze
          simp only [Nat.one_ne_zero, if_false, Array.getElem?_modify]
          rw [if_neg (Ne.symm hb)]
        have hsz : (w.freeze ⟨g', cur.size, none⟩ 1).heap.size = w.heap.size := by
          unfold World.freeze; simp
        refine (hw.pull p).upd ⟨by unfold World.freeze; simp, by unfold World.freeze; simp, by unfold World.freeze; simp, by omega⟩ (fun s hs hA => ⟨⟨fun b => b = g', fun b hb => ?_, ?_⟩, fun b hb _ => hother b (fun e => hb ?_)⟩)
        · subst hb
          rcases hA.2 with ⟨_, h0⟩ | ⟨g2, cap2, cur2, hv, q2, _⟩
          · omega
          · cases hv; exact ⟨by omega, .inl (res_some q2).1⟩
        · refine ⟨_, cap, rfl, ⟨h3, h4⟩, fun j u hu => ⟨_, rfl, cur, e, (cur.size, cur.size + 1), ?_, ?_, ?_⟩⟩
          · unfold res; simp only [if_true]; exact hfz
          · rw [Addr.add_lit]
          · rw [Addr.add_lit]
            have e1 : cur.toList.take (m * size) = xs := h6
            rw [← e1, List.getElem?_take] at hu
            split at hu
            · simpa using hu
            · cases hu
        · subst e
          rcases hA.2 with ⟨_, h0⟩ | ⟨g2, cap2, cur2, hv, q2, _⟩
          · omega
          · cases hv; exact (res_some q2).1)
theorem rdw_ro {m : Nat} {v : Value} {xs : List Value} (p : Pull H (ro v m xs) H') : ∀ w, St w0 w H → RdW w v m xs := fun w hw => by
  obtain ⟨s, hA⟩ := (hw.pull p).2.head
  exact Rd.mono res_hp hA

theorem o_callV {f : FuncId} {args : List Operand} {ts : Array TypeId} {vs : List Value} {Pre : World → Prop} {v : Value} [TFn P f] (hs : SpecR P f vs.toArray Pre (fun r H' => r = v ∧ H' = [])) (hargs : evs L args vs) (hpre : ∀ w, St w0 w H → Pre w) (hn : Nat.blt d n = true)
    (k : Tri w0 K n ((d, v) :: L) H) :
    Tri w0 (OpG P ⟨some d, .call { callee := .value (.func f), args := args.toArray, argTypes := ts }, ty, pos, aft, g⟩ K Q) n L H :=
  o_callR hs hargs hpre hn (fun v' H' ⟨h1, h2⟩ => by subst h1; subst h2; exact k)
theorem o_conv8 {s t : TypeId} {x : Operand} {ik sk : IntKind} {i : Int} [TInt P s sk] [TInt P t .u8] (hx : ev L x = some (.int ik i)) (hn : Nat.blt d n = true) (k : Tri w0 K n ((d, .int .u8 (i % 256)) :: L) H) :
    Tri w0 (OpG P ⟨some d, .convert s t x, ty, pos, aft, g⟩ K Q) n L H := o_conv hx hn k
theorem o_conv32 {s t : TypeId} {x : Operand} {ik sk : IntKind} {i : Int} [TInt P s sk] [TInt P t .u32] (hx : ev L x = some (.int ik i)) (hn : Nat.blt d n = true) (k : Tri w0 K n ((d, .int .u32 (i % 4294967296)) :: L) H) :
    Tri w0 (OpG P ⟨some d, .convert s t x, ty, pos, aft, g⟩ K Q) n L H := o_conv hx hn k
theorem o_conv64 {s t : TypeId} {x : Operand} {ik sk : IntKind} {i : Int} [TInt P s sk] [TInt P t .u64] (hx : ev L x = some (.int ik i)) (hn : Nat.blt d n = true) (k : Tri w0 K n ((d, .int .u64 (i % 18446744073709551616)) :: L) H) :
    Tri w0 (OpG P ⟨some d, .convert s t x, ty, pos, aft, g⟩ K Q) n L H := o_conv hx hn k
end
end Go.Gv
