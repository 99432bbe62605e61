/- The rules of memory, in the logic of GvCore: cells, rows, slices, what is made, what is appended, calls, the end. -/
import Derived.Test.YtmomlimhjnfadaaGvOps
namespace Go.Gv
open Go Go.RowKit
set_option linter.unusedVariables false
set_option linter.unusedSimpArgs false

/-! slices as values -/
/-- the address of cell k behind a slice's beginning -/
def eaddr (v : Value) (k : Nat) : Addr := (match v with | .slice (some a) _ _ => a | _ => default).add k

theorem Addr.add_add (a : Addr) (j k : Nat) : (a.add j).add k = a.add (j + k) := by
  unfold Addr.add
  by_cases hj : j = 0 <;> by_cases hk : k = 0 <;> simp [hj, hk]
  omega

theorem eaddr_add (v : Value) (j k : Nat) : (eaddr v j).add k = eaddr v (j + k) := Addr.add_add _ _ _

/-- a slice that reads as cells in a part of memory -/
def Rd (h : PH) (v : Value) (n : Nat) (xs : List Value) : Prop :=
  ∃ A c, v = .slice A n c ∧ (n ≤ c ∧ c ≤ maxLen) ∧ ∀ j u, xs[j]? = some u → ∃ a, A = some a ∧ ∃ cs T fr, h a.block = some (.cells cs T fr) ∧ (a.add j).spot = none ∧ cs[(a.add j).off]? = some u

/-- a row that is owned whole, its spare room, too -/
def own (e : TypeId) (size : Nat) (v : Value) (n : Nat) (xs : List Value) : Atom := fun h =>
  xs.length = n * size ∧ ((v = .slice none 0 0 ∧ n = 0) ∨
    ∃ g cap cur, v = .slice (some ⟨g, 0, none⟩) n cap ∧ h g = some (.cells cur e (0, 0)) ∧ n ≤ cap ∧ cap ≤ maxLen ∧ cur.size = cap * size ∧ cur.toList.take (n * size) = xs)

theorem own_nil (e : TypeId) (size : Nat) (h : PH) : own e size (.slice none 0 0) 0 [] h := ⟨by simp, .inl ⟨rfl, rfl⟩⟩

theorem own_row {e : TypeId} {size n : Nat} {v : Value} {xs : List Value} {w : World} {s : Nat → Prop} (h : own e size v n xs (res w s)) : w.ownsRow 0 e size v n xs := by
  refine ⟨h.1, ?_⟩
  rcases h.2 with h2 | ⟨g, cap, cur, h1, h2, h3, h4, h5, h6⟩
  · exact .inl h2
  · exact .inr ⟨g, cap, cur, h1, Nat.zero_le _, (res_some h2).2, h3, h4, h5, h6⟩

theorem own_Rd {e : TypeId} {size n : Nat} {v : Value} {xs : List Value} {h : PH} (ho : own e size v n xs h) : Rd h v n xs := by
  rcases ho.2 with ⟨rfl, rfl⟩ | ⟨g, cap, cur, rfl, h2, h3, h4, h5, h6⟩
  · refine ⟨none, 0, rfl, ⟨Nat.le_refl _, Nat.zero_le _⟩, fun j u hu => ?_⟩
    have : xs = [] := List.eq_nil_of_length_eq_zero (by simpa using ho.1)
    subst this; simp at hu
  · refine ⟨_, cap, rfl, ⟨h3, h4⟩, fun j u hu => ⟨_, rfl, cur, e, (0, 0), h2, ?_, ?_⟩⟩
    · rw [Addr.add_lit]
    · rw [Addr.add_lit]
      have e1 : cur.toList.take (n * size) = xs := h6
      rw [← e1, List.getElem?_take] at hu
      split at hu
      · simpa using hu
      · cases hu

theorem Rd.slice {h : PH} {v : Value} {n : Nat} {xs : List Value} (hr : Rd h v n xs) : ∃ A c, v = .slice A n c ∧ n ≤ c ∧ c ≤ maxLen := by
  obtain ⟨A, c, h1, h2, _⟩ := hr; exact ⟨A, c, h1, h2⟩

theorem Rd.le {h : PH} {v : Value} {n : Nat} {xs : List Value} (hr : Rd h v n xs) : n ≤ 9223372036854775807 := by
  obtain ⟨A, c, h1, h2, _⟩ := hr; unfold maxLen at h2; omega

theorem Rd.cell {w : World} {s : Nat → Prop} {v : Value} {n : Nat} {xs : List Value} (hr : Rd (res w s) v n xs) {j : Nat} {u : Value} (hu : xs[j]? = some u) : w.cell? (eaddr v j) = some u := by
  obtain ⟨A, c, rfl, _, h3⟩ := hr
  obtain ⟨a, rfl, cs, T, fr, g1, g2, g3⟩ := h3 j u hu
  have hb : (a.add j).block = a.block := by unfold Addr.add; split <;> rfl
  simp only [eaddr, World.cell?, hb, (res_some g1).2, g2, Option.isSome_none, Bool.false_eq_true, if_false]
  exact g3

theorem Rd.mono {h h' : PH} (hh : ∀ b o, h b = some o → h' b = some o) {v : Value} {n : Nat} {xs : List Value} (hr : Rd h v n xs) : Rd h' v n xs := by
  obtain ⟨A, c, h1, h2, h3⟩ := hr
  refine ⟨A, c, h1, h2, fun j u hu => ?_⟩
  obtain ⟨a, rfl, cs, T, fr, g1, g2, g3⟩ := h3 j u hu
  exact ⟨a, rfl, cs, T, fr, hh _ _ g1, g2, g3⟩

theorem Rd.sub {h : PH} {v : Value} {n : Nat} {xs : List Value} (hr : Rd h v n xs) {size lo hi : Nat} (h1 : lo ≤ hi) (h2 : hi ≤ n) :
    ∀ A c, v = .slice A n c → Rd h (.slice (if c = lo then A else A.map (·.add (lo * size))) (hi - lo) (c - lo)) (hi - lo) ((xs.drop (lo * size)).take ((hi - lo) * size)) := by
  intro A c hv
  obtain ⟨A', c', hv', hc, h3⟩ := hr
  rw [hv] at hv'; cases hv'
  refine ⟨_, _, rfl, ⟨by omega, by omega⟩, fun j u hu => ?_⟩
  rw [List.getElem?_take] at hu
  split at hu
  · rename_i hj
    rw [List.getElem?_drop] at hu
    have hne : c ≠ lo := by
      intro e
      have : hi - lo = 0 := by omega
      simp [this] at hj
    rw [if_neg hne]
    obtain ⟨a, rfl, cs, T, fr, g1, g2, g3⟩ := h3 _ u hu
    refine ⟨a.add (lo * size), rfl, cs, T, fr, ?_, ?_, ?_⟩
    · have hb : (a.add (lo * size)).block = a.block := by unfold Addr.add; split <;> rfl
      rw [hb]; exact g1
    · rw [Addr.add_add]; exact g2
    · rw [Addr.add_add]; exact g3
  · cases hu

section
variable {P : Program} {w0 : World} {n : NT} {L : Slots} {H H' : List Atom} {Q : Exit → Act → World → Prop} {K : Act → World → Prop} {o : Oper} {d : Nat}
variable {ty : TypeId} {pos : String} {aft : Array Edge} {g : Option (Nat × Bool)}

theorem St.blk {w : World} {b : Nat} {T : TypeId} {cs : List Value} (hw : St w0 w H) (p : Pull H (blk b T cs) H') : w.heap[b]? = some (.cells cs.toArray T (0, 0)) := by
  obtain ⟨s, hs⟩ := (hw.pull p).2.head
  exact (res_some hs).2

theorem St.ex {w : World} {h0 : PH} (hw : St w0 w H) (p : Pull H (Ex h0) H') : ∃ s : Nat → Prop, h0 = res w s := by
  obtain ⟨s, hs⟩ := (hw.pull p).2.head
  exact ⟨s, hs.symm⟩

theorem plain_isAgg {T : TypeId} [hT : TPlain P T] (w : World) : (isAgg T).run P w = .ok false w := by
  have h := hT.ok
  cases hu : P.underlying T with
  | none => simp [hu] at h
  | some d =>
    unfold isAgg
    rw [Sem.run_bind, run_underlying hu w]
    cases d <;> simp_all

theorem agg_isAgg {T : TypeId} {sz : Nat} [hT : TAgg P T sz] (w : World) : (isAgg T).run P w = .ok true w := by
  have h := hT.ok
  cases hu : P.underlying T with
  | none => simp [hu] at h
  | some d =>
    unfold isAgg
    rw [Sem.run_bind, run_underlying hu w]
    cases d <;> simp_all

theorem size_run {T : TypeId} {sz : Nat} (h : (P.info? T).map (·.size) = some sz) (w : World) : (sizeOf T).run P w = .ok sz w := by
  cases hq : P.info? T with
  | none => simp [hq] at h
  | some i =>
    have hi : i.size = sz := by simpa [hq] using h
    simp [sizeOf, typeInfo, hq, hi]

theorem zero_run {T : TypeId} {z : List Value} [hz : TZero P T z] (w : World) : ∃ v, (zeroValue T).run P w = .ok v w ∧ v.cells.toList = z := by
  have h := hz.ok
  cases hq : P.info? T with
  | none => simp [hq] at h
  | some i =>
    cases hv : i.zero with
    | none => simp [hq, hv] at h
    | some v => exact ⟨v, by simp [zeroValue, typeInfo, hq, hv], by simpa [hq, hv] using h⟩

theorem load_cell {T : TypeId} [TPlain P T] {w : World} {a : Addr} {v : Value} (h : w.cell? a = some v) : (loadVar T a).run P w = .ok v w := by
  simp [loadVar, plain_isAgg w, load, Sem.run, h]

/-- a single cell of a block -/
theorem o_load {T T' : TypeId} {x : Operand} {b i : Nat} {cs : List Value} {v : Value} [TPlain P T] (hx : ev L x = some (.pointer (some ⟨b, i, none⟩))) (p : Pull H (blk b T' cs) H') (hv : cs[i]? = some v) (hn : Nat.blt d n = true) (k : Tri w0 K n ((d, v) :: L) H) :
    Tri w0 (OpG P ⟨some d, .load T x, ty, pos, aft, g⟩ K Q) n L H :=
  Tri.val rfl hn v (fun a w ha hw => by
    have hc : w.cell? ⟨b, i, none⟩ = some v := by simp [World.cell?, St.blk hw p, hv]
    simp [execOp, ha.eval hx, Instr.loadAt, Instr.sureAddr, load_cell (P := P) (T := T) hc]) k

/-- a cell of a slice that reads -/
theorem o_loadRd {T : TypeId} {x : Operand} {h0 : PH} {u v : Value} {m j : Nat} {xs : List Value} [TPlain P T] (hx : ev L x = some (.pointer (some (eaddr u j)))) (p : Pull H (Ex h0) H') (hr : Rd h0 u m xs) (hv : xs[j]? = some v) (hn : Nat.blt d n = true) (k : Tri w0 K n ((d, v) :: L) H) :
    Tri w0 (OpG P ⟨some d, .load T x, ty, pos, aft, g⟩ K Q) n L H :=
  Tri.val rfl hn v (fun a w ha hw => by
    obtain ⟨s, rfl⟩ := St.ex hw p
    simp [execOp, ha.eval hx, Instr.loadAt, Instr.sureAddr, load_cell (P := P) (T := T) (hr.cell hv)]) k
theorem o_loadOwn {T e : TypeId} {x : Operand} {u v : Value} {m j size : Nat} {xs : List Value} [TPlain P T] (hx : ev L x = some (.pointer (some (eaddr u j)))) (p : Pull H (own e size u m xs) H') (hv : xs[j]? = some v) (hn : Nat.blt d n = true) (k : Tri w0 K n ((d, v) :: L) H) :
    Tri w0 (OpG P ⟨some d, .load T x, ty, pos, aft, g⟩ K Q) n L H :=
  Tri.val rfl hn v (fun a w ha hw => by
    obtain ⟨s, hs⟩ := (hw.pull p).2.head
    simp [execOp, ha.eval hx, Instr.loadAt, Instr.sureAddr, load_cell (P := P) (T := T) ((own_Rd hs).cell hv)]) k

theorem load_agg {T : TypeId} {sz : Nat} [hT : TAgg P T sz] {w : World} {a : Addr} {ys : List Value} (hl : ys.length = sz) (h : ∀ j v, ys[j]? = some v → w.cell? (a.add j) = some v) : (loadVar T a).run P w = .ok (.agg ys.toArray) w := by
  have hc := run_loadCells_list (P := P) w a ys h
  simp [loadVar, agg_isAgg (P := P) (T := T) w, size_run hT.size, ← hl, hc]

/-- some cells of a block -/
theorem o_loadAgg {T T' : TypeId} {sz : Nat} {x : Operand} {b i : Nat} {cs ys : List Value} [TAgg P T sz] (hx : ev L x = some (.pointer (some ⟨b, i, none⟩))) (p : Pull H (blk b T' cs) H') (hv : (cs.drop i).take sz = ys) (hl : ys.length = sz) (hn : Nat.blt d n = true) (k : Tri w0 K n ((d, .agg ys.toArray) :: L) H) :
    Tri w0 (OpG P ⟨some d, .load T x, ty, pos, aft, g⟩ K Q) n L H :=
  Tri.val rfl hn _ (fun a w ha hw => by
    have hr : (loadVar T ⟨b, i, none⟩).run P w = .ok (.agg ys.toArray) w := load_agg hl (fun j v hj => by
      rw [← hv, List.getElem?_take] at hj
      split at hj
      · rw [List.getElem?_drop] at hj
        rw [Addr.add_lit]
        simp [World.cell?, St.blk hw p, hj]
      · cases hj)
    simp [execOp, ha.eval hx, Instr.loadAt, Instr.sureAddr, hr]) k
theorem o_loadAggRd {T : TypeId} {sz : Nat} {x : Operand} {h0 : PH} {u : Value} {m i : Nat} {xs ys : List Value} [TAgg P T sz] (hx : ev L x = some (.pointer (some (eaddr u i)))) (p : Pull H (Ex h0) H') (hr : Rd h0 u m xs) (hv : (xs.drop i).take sz = ys) (hl : ys.length = sz) (hn : Nat.blt d n = true) (k : Tri w0 K n ((d, .agg ys.toArray) :: L) H) :
    Tri w0 (OpG P ⟨some d, .load T x, ty, pos, aft, g⟩ K Q) n L H :=
  Tri.val rfl hn _ (fun a w ha hw => by
    obtain ⟨s, rfl⟩ := St.ex hw p
    have hq : (loadVar T (eaddr u i)).run P w = .ok (.agg ys.toArray) w := load_agg hl (fun j v hj => by
      rw [← hv, List.getElem?_take] at hj
      split at hj
      · rw [List.getElem?_drop] at hj
        rw [eaddr_add]
        exact hr.cell hj
      · cases hj)
    simp [execOp, ha.eval hx, Instr.loadAt, Instr.sureAddr, hq]) k

theorem upd_row {w : World} {b : Nat} {T : TypeId} {cs : List Value} (hw : St w0 w (Gv.blk b T cs :: H)) (cs' : List Value) : St w0 (w.setRow b cs'.toArray) (Gv.blk b T cs' :: H) := by
  refine hw.upd ⟨rfl, rfl, rfl, by simp⟩ (fun s hs hA => ⟨⟨s, fun c hc => ⟨by have := hs c hc; simpa using this, .inl hc⟩, ?_⟩, fun c hc hl => ?_⟩)
  · have hb := res_some hA
    show res _ s b = _
    unfold res; rw [if_pos hb.1]
    exact setRow_heap w b _ _ T _ hb.2
  · have hb := res_some hA
    exact setRow_other w b c _ (fun e => hc (e ▸ hb.1))

/-- a store of one cell -/
theorem o_store {T T' : TypeId} {x y : Operand} {b i : Nat} {cs : List Value} {v : Value} [_hT : TPlain P T] [hz : TSize P T 1] (hx : ev L x = some (.pointer (some ⟨b, i, none⟩))) (hy : ev L y = some v) (h1 : v.oneCell' = true) (p : Pull H (blk b T' cs) H') (hi : i < cs.length) (k : Tri w0 K n L (blk b T' (cs.set i v) :: H')) :
    Tri w0 (OpG P ⟨none, .store T x y, ty, pos, aft, g⟩ K Q) n L H :=
  Tri.skipW rfl (fun a w ha hw => by
    have hb := St.blk hw p
    have hcell : v.cells = #[v] := by cases v <;> simp_all [Value.cells, Value.oneCell']
    have hst := run_storeCells_at P b i T' [v] 0 cs.toArray w hb (by simp; omega) (by simpa using h1)
    refine ⟨_, ?_, fun a' ha' => k a' _ ha' (upd_row (hw.pull p) (cs.set i v))⟩
    have e : (cs.toArray.toList.take (i + 0) ++ [v] ++ cs.toArray.toList.drop (i + 0 + [v].length)).toArray = (cs.set i v).toArray := by
      congr 1
      rw [List.set_eq_take_append_cons_drop, if_pos hi]
      simp
    rw [e] at hst
    simp [execOp, ha.eval hx, ha.eval hy, Instr.storeAt, Instr.sureAddr, storeVar, size_run hz.ok, hcell, hst]) 

/-- a store of several cells -/
theorem o_storeAgg {T T' : TypeId} {sz : Nat} {x y : Operand} {b i : Nat} {cs ys : List Value} [hT : TAgg P T sz] (hx : ev L x = some (.pointer (some ⟨b, i, none⟩))) (hy : ev L y = some (.agg ys.toArray)) (hl : ys.length = sz) (h1 : ∀ v ∈ ys, v.oneCell' = true) (p : Pull H (blk b T' cs) H') (hi : i + sz ≤ cs.length) (k : Tri w0 K n L (blk b T' (cs.take i ++ ys ++ cs.drop (i + sz)) :: H')) :
    Tri w0 (OpG P ⟨none, .store T x y, ty, pos, aft, g⟩ K Q) n L H :=
  Tri.skipW rfl (fun a w ha hw => by
    have hb := St.blk hw p
    have hst := run_storeCells_at P b i T' ys 0 cs.toArray w hb (by simp; omega) h1
    refine ⟨_, ?_, fun a' ha' => k a' _ ha' (upd_row (hw.pull p) _)⟩
    simp only [Nat.add_zero, hl] at hst
    simp [execOp, ha.eval hx, ha.eval hy, Instr.storeAt, Instr.sureAddr, storeVar, size_run hT.size, hl, hst, Value.cells])

theorem o_alloc {T : TypeId} {z : List Value} [hz : TZero P T z] (hn : Nat.blt d n = true) (k : ∀ b, Tri w0 K n ((d, .pointer (some ⟨b, 0, none⟩)) :: L) (blk b T z :: H)) :
    Tri w0 (OpG P ⟨some d, .alloc T, ty, pos, aft, g⟩ K Q) n L H :=
  Tri.valW rfl hn (fun a w ha hw => by
    obtain ⟨v, hv, hc⟩ := zero_run (P := P) (T := T) w
    refine ⟨_, w.alloc (.cells v.cells T), ?_, fun a' ha' => k w.heap.size a' _ ha' (hw.alloc _ _ (fun h e => by rw [← hc]; simpa [blk] using e))⟩
    simp [execOp, Instr.alloc, hv, newVar, newRow, newObj]; rfl)

theorem o_box1 {T : TypeId} {x : Operand} {v : Value} (hx : ev L x = some v) (h1 : v.oneCell' = true) (hn : Nat.blt d n = true) (k : ∀ b, Tri w0 K n ((d, .pointer (some ⟨b, 0, none⟩)) :: L) (blk b T [v] :: H)) :
    Tri w0 (OpG P ⟨some d, .box T x, ty, pos, aft, g⟩ K Q) n L H :=
  Tri.valW rfl hn (fun a w ha hw => by
    have hcell : v.cells = #[v] := by cases v <;> simp_all [Value.cells, Value.oneCell']
    refine ⟨_, w.alloc (.cells v.cells T), ?_, fun a' ha' => k w.heap.size a' _ ha' (hw.alloc _ _ (fun h e => by rw [hcell] at e; simpa [blk] using e))⟩
    simp [execOp, ha.eval hx, Instr.box, newVar, newRow, newObj]; rfl)
theorem o_boxA {T : TypeId} {x : Operand} {cs : List Value} (hx : ev L x = some (.agg cs.toArray)) (hn : Nat.blt d n = true) (k : ∀ b, Tri w0 K n ((d, .pointer (some ⟨b, 0, none⟩)) :: L) (blk b T cs :: H)) :
    Tri w0 (OpG P ⟨some d, .box T x, ty, pos, aft, g⟩ K Q) n L H :=
  Tri.valW rfl hn (fun a w ha hw => by
    refine ⟨_, w.alloc (.cells cs.toArray T), ?_, fun a' ha' => k w.heap.size a' _ ha' (hw.alloc _ _ (fun h e => by simpa [blk] using e))⟩
    simp [execOp, ha.eval hx, Instr.box, newVar, newRow, newObj, Value.cells]; rfl)

/-! places -/
theorem o_ixArr {T e : TypeId} {m size : Nat} {x y : Operand} {b o' : Nat} {ik : IntKind} {i : Int} {j : Nat} [hT : TArr P T m e size] (hx : ev L x = some (.pointer (some ⟨b, o', none⟩))) (hy : ev L y = some (.int ik i)) (hj : i = (j : Int)) (hlt : j < m) (hn : Nat.blt d n = true) (k : Tri w0 K n ((d, .pointer (some ⟨b, o' + j * size, none⟩)) :: L) H) :
    Tri w0 (OpG P ⟨some d, .indexAddr T x y, ty, pos, aft, g⟩ K Q) n L H :=
  Tri.val rfl hn _ (fun a w ha hw => by
    subst hj
    have h1 : (0 : Int) ≤ j ∧ (j : Int) < m := by omega
    simp [execOp, ha.eval hx, ha.eval hy, Instr.indexAt, asIntOf, run_underlying hT.ok, Instr.sureAddr, hlt, size_run hT.size, Addr.add_lit]) k
theorem o_ixSl {T e : TypeId} {size : Nat} {x y : Operand} {b o' m c : Nat} {ik : IntKind} {i : Int} {j : Nat} [hT : TSlice P T e] [hs : TSize P e size] (hx : ev L x = some (.slice (some ⟨b, o', none⟩) m c)) (hy : ev L y = some (.int ik i)) (hj : i = (j : Int)) (hlt : j < m) (hn : Nat.blt d n = true) (k : Tri w0 K n ((d, .pointer (some ⟨b, o' + j * size, none⟩)) :: L) H) :
    Tri w0 (OpG P ⟨some d, .indexAddr T x y, ty, pos, aft, g⟩ K Q) n L H :=
  Tri.val rfl hn _ (fun a w ha hw => by
    subst hj
    simp [execOp, ha.eval hx, ha.eval hy, Instr.indexAt, asIntOf, run_underlying hT.ok, Instr.sureAddr, hlt, size_run hs.ok, Addr.add_lit]) k
theorem ix_run {T e : TypeId} {size : Nat} [hT : TSlice P T e] [hs : TSize P e size] {w : World} {v : Value} {A : Option Addr} {m c j : Nat} {ik : IntKind} (hv : v = .slice A m c) (hA : A.isSome = true) (hlt : j < m) :
    (Instr.indexAt T v (.int ik j)).run P w = .ok (.pointer (some (eaddr v (j * size)))) w := by
  subst hv
  cases A with
  | none => simp at hA
  | some a => simp [Instr.indexAt, asIntOf, run_underlying hT.ok, hlt, size_run hs.ok, eaddr]
theorem o_ixRd {T e : TypeId} {size : Nat} {x y : Operand} {h0 : PH} {v : Value} {m : Nat} {xs : List Value} {ik : IntKind} {i : Int} {j : Nat} [hT : TSlice P T e] [hs : TSize P e size] (hx : ev L x = some v) (hy : ev L y = some (.int ik i)) (hr : Rd h0 v m xs) (hj : i = (j : Int)) (hlt : j < m) (hl : j * size < xs.length) (hn : Nat.blt d n = true) (k : Tri w0 K n ((d, .pointer (some (eaddr v (j * size)))) :: L) H) :
    Tri w0 (OpG P ⟨some d, .indexAddr T x y, ty, pos, aft, g⟩ K Q) n L H :=
  Tri.val rfl hn _ (fun a w ha hw => by
    subst hj
    obtain ⟨A, c, hv, hc, h3⟩ := hr
    obtain ⟨a', rfl, _⟩ := h3 (j * size) _ (List.getElem?_eq_getElem hl)
    simp [execOp, ha.eval hx, ha.eval hy, ix_run (P := P) (T := T) (w := w) (ik := ik) hv rfl hlt]) k
theorem o_ixOwn {T e e' : TypeId} {size size' : Nat} {x y : Operand} {v : Value} {m : Nat} {xs : List Value} {ik : IntKind} {i : Int} {j : Nat} [hT : TSlice P T e] [hs : TSize P e size] (hx : ev L x = some v) (hy : ev L y = some (.int ik i)) (p : Pull H (own e' size' v m xs) H') (hj : i = (j : Int)) (hlt : j < m) (hn : Nat.blt d n = true) (k : Tri w0 K n ((d, .pointer (some (eaddr v (j * size)))) :: L) H) :
    Tri w0 (OpG P ⟨some d, .indexAddr T x y, ty, pos, aft, g⟩ K Q) n L H :=
  Tri.val rfl hn _ (fun a w ha hw => by
    subst hj
    obtain ⟨s, hA⟩ := (hw.pull p).2.head
    rcases hA.2 with ⟨rfl, rfl⟩ | ⟨g', cap, cur, hv, _⟩
    · omega
    · simp [execOp, ha.eval hx, ha.eval hy, ix_run (P := P) (T := T) (w := w) (ik := ik) hv rfl hlt]) k
theorem o_fieldE {T : TypeId} {x : Operand} {f off j : Nat} {v : Value} [hT : TField P T f off] (hx : ev L x = some (.pointer (some (eaddr v j)))) (hn : Nat.blt d n = true) (k : Tri w0 K n ((d, .pointer (some (eaddr v (j + off)))) :: L) H) :
    Tri w0 (OpG P ⟨some d, .fieldAddr T x f, ty, pos, aft, g⟩ K Q) n L H :=
  Tri.val rfl hn _ (fun a w ha _ => by
    obtain ⟨fs, fd, h1, h2, h3, h4⟩ := hT.ok
    cases hi : P.info? fd.type with
    | none => simp [hi] at h4
    | some i =>
      have hz : ¬ i.size = 0 := by simpa [hi] using h4
      subst h3
      simp only [execOp, ha.eval hx]
      simp [Instr.fieldAt, run_underlying h1, h2, Instr.sureAddr, fieldPlace, sizeOf, typeInfo, hi, hz, eaddr_add]) k

/-! lengths -/
theorem len_run {T e : TypeId} {T2 : TypeId} [hT : TSlice P T e] {w : World} {A : Option Addr} {m c : Nat} : (Builtin.len_ #[T] T2 #[.slice A m c]).run P w = .ok (.int .i64 m) w := by
  simp [Builtin.len_, run_underlying hT.ok, goInt]
theorem o_len {T e : TypeId} {x : Operand} {A : Option Addr} {m c : Nat} [TSlice P T e] (hx : ev L x = some (.slice A m c)) (hn : Nat.blt d n = true) (k : Tri w0 K n ((d, .int .i64 (m : Int)) :: L) H) :
    Tri w0 (OpG P ⟨some d, .call { callee := .builtin .len, args := #[x], argTypes := #[T] }, ty, pos, aft, g⟩ K Q) n L H :=
  Tri.val rfl hn _ (fun a w ha _ => by simp [execOp, resolve, invoke, builtin, ha.eval hx, len_run (P := P) (T := T)]) k
theorem o_lenRd {T e : TypeId} {x : Operand} {h0 : PH} {v : Value} {m : Nat} {xs : List Value} [TSlice P T e] (hx : ev L x = some v) (hr : Rd h0 v m xs) (hn : Nat.blt d n = true) (k : Tri w0 K n ((d, .int .i64 (m : Int)) :: L) H) :
    Tri w0 (OpG P ⟨some d, .call { callee := .builtin .len, args := #[x], argTypes := #[T] }, ty, pos, aft, g⟩ K Q) n L H := by
  obtain ⟨A, c, rfl, _, _⟩ := hr
  exact o_len hx hn k
theorem o_lenOwn {T e e' : TypeId} {x : Operand} {v : Value} {m size : Nat} {xs : List Value} [TSlice P T e] (hx : ev L x = some v) (p : Pull H (own e' size v m xs) H') (hn : Nat.blt d n = true) (k : Tri w0 K n ((d, .int .i64 (m : Int)) :: L) H) :
    Tri w0 (OpG P ⟨some d, .call { callee := .builtin .len, args := #[x], argTypes := #[T] }, ty, pos, aft, g⟩ K Q) n L H :=
  Tri.val rfl hn _ (fun a w ha hw => by
    obtain ⟨s, hA⟩ := (hw.pull p).2.head
    obtain ⟨A, c, rfl, _, _⟩ := own_Rd hA
    simp [execOp, resolve, invoke, builtin, ha.eval hx, len_run (P := P) (T := T)]) k
theorem o_lenStr {T : TypeId} {x : Operand} {s : ByteArray} (hT : P.underlying T = some .string) (hx : ev L x = some (.string s)) (hn : Nat.blt d n = true) (k : Tri w0 K n ((d, .int .i64 (s.size : Int)) :: L) H) :
    Tri w0 (OpG P ⟨some d, .call { callee := .builtin .len, args := #[x], argTypes := #[T] }, ty, pos, aft, g⟩ K Q) n L H :=
  Tri.val rfl hn _ (fun a w ha _ => by simp [execOp, resolve, invoke, builtin, ha.eval hx, Builtin.len_, run_underlying hT, goInt]) k

/-! calls and the end -/
theorem fn_run {f : FuncId} [hf : TFn P f] {w : World} {args : Array Value} : (callFunc f args).run P w = .ok (.enter f args) w := by
  obtain ⟨fn, h1, h2, h3⟩ := hf.ok
  have h2' : fn.body ≠ none := by intro e; simp [e] at h2
  have h3' : fn.name ≠ "runtime.NumGoroutine" := by simpa using h3
  simp [callFunc, h1, h2', h3']

/-- what a caller makes of a callee's answer -/
def Ret (R : Value → World → Prop) : Ending → World → Prop
  | .returned v, w => R v w
  | _, _ => False

theorem o_call {f : FuncId} {args : Array Operand} {ts : Array TypeId} {vs : Array Value} [TFn P f] (hargs : ∀ a, Has a n L → args.map a.eval = vs) (hn : Nat.blt d n = true)
    (hc : ∀ w, St w0 w H → Calls P f vs w (Ret fun v w' => Tri w0 (fun a _ => K a w') n ((d, v) :: L) [] ∧ Env w0 w')) :
    Tri w0 (OpG P ⟨some d, .call { callee := .value (.func f), args := args, argTypes := ts }, ty, pos, aft, g⟩ K Q) n L H := fun a w ha hw => by
  refine .inl ?_
  unfold Oper.wp
  have hr : (execOp a.eval ⟨some d, .call { callee := .value (.func f), args := args, argTypes := ts }, ty, pos, aft, g⟩).run P w = .ok (.enter f vs) w := by
    have e : Act.eval a (.func f) = .func (.func f) #[] #[] := rfl
    simp [execOp, resolve, Deferred.ofValue, e, invoke, hargs a ha, fn_run (P := P) (f := f)]
  rw [hr, Oper.upon_enter]
  refine (hc w hw).mono ?_
  intro e w' he
  cases e with
  | returned v => exact he.1 _ w' (ha.put hn v) ⟨he.2, trivial⟩
  | panicked c => exact he.elim
  | outgrown => exact he.elim

end
end Go.Gv
