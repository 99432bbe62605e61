/- The rules of the single operations, in the logic of GvCore. -/
import Derived.Test.YtmomlimhjnfadaaGvCore
namespace Go.Gv
open Go Go.RowKit
set_option linter.unusedVariables false
set_option linter.unusedSimpArgs false

/-! what is asked of a program's types, as classes that are met by instances -/
class TPlain (P : Program) (T : TypeId) : Prop where
  ok : (match P.underlying T with | some (.struct _) | some (.array _ _) | none => false | some _ => true) = true
class TAgg (P : Program) (T : TypeId) (n : outParam Nat) : Prop where
  ok : (match P.underlying T with | some (.struct _) | some (.array _ _) => true | _ => false) = true
  size : (P.info? T).map (·.size) = some n
class TSize (P : Program) (T : TypeId) (n : outParam Nat) : Prop where
  ok : (P.info? T).map (·.size) = some n
class TZero (P : Program) (T : TypeId) (z : outParam (List Value)) : Prop where
  ok : (P.info? T).map (fun i => i.zero.map (·.cells.toList)) = some (some z)
class TField (P : Program) (T : TypeId) (f : Nat) (off : outParam Nat) : Prop where
  ok : ∃ fs fd, P.underlying T = some (.struct fs) ∧ fs[f]? = some fd ∧ fd.offset = off ∧ ((P.info? fd.type).map fun i => decide (i.size = 0)) = some false
class TInt (P : Program) (T : TypeId) (k : outParam IntKind) : Prop where
  ok : P.underlying T = some (.int k)
class TSlice (P : Program) (T : TypeId) (e : outParam TypeId) : Prop where
  ok : P.underlying T = some (.slice e)
class TElem (P : Program) (e : TypeId) (size bytes : outParam Nat) (z : outParam (List Value)) : Prop where
  ok : (P.info? e).map (fun i => (i.size, i.bytes, i.zero.map (·.cells.toList))) = some (size, bytes, some z)
  pos : (Nat.blt 0 size && Nat.ble size bytes && Nat.beq z.length size && Nat.ble bytes 65536) = true
class TArr (P : Program) (T : TypeId) (n : outParam Nat) (e : outParam TypeId) (size : outParam Nat) : Prop where
  ok : P.underlying T = some (.array n e)
  size : (P.info? e).map (·.size) = some size
class TBool (P : Program) (T : TypeId) : Prop where
  ok : P.underlying T = some .bool
class TPtr (P : Program) (T : TypeId) : Prop where
  ok : P.underlying T = some (.pointer (P.pointee T))
class TStr (P : Program) (T : TypeId) : Prop where
  ok : P.underlying T = some .string
class TFn (P : Program) (f : FuncId) : Prop where
  ok : ∃ fn, P.funcs[f]? = some fn ∧ fn.body.isNone = false ∧ (fn.name == "runtime.NumGoroutine") = false

theorem Value.one_of {v : Value} (h : v.oneCell' = true) : ∀ cs, v ≠ .agg cs := by intro cs e; subst e; cases h

section
variable {P : Program} {w0 : World} {n : NT} {L : Slots} {H : List Atom} {Q : Exit → Act → World → Prop} {K : Act → World → Prop} {o : Oper} {d : Nat}

/-- an operation that answers a value and leaves the world alone -/
theorem Tri.val (hd : o.dst = some d) (hn : Nat.blt d n = true) (v : Value) (he : ∀ a w, Has a n L → St w0 w H → (execOp a.eval o).run P w = .ok (.value v) w) (k : Tri w0 K n ((d, v) :: L) H) : Tri w0 (OpG P o K Q) n L H := fun a w ha hw => by
  refine .inl ?_
  unfold Oper.wp
  rw [he a w ha hw, Oper.upon_value, hd]
  exact k _ w (ha.put hn v) hw

/-- an operation that answers some value in some world -/
theorem Tri.valW (hd : o.dst = some d) (hn : Nat.blt d n = true) (he : ∀ a w, Has a n L → St w0 w H → ∃ v w', (execOp a.eval o).run P w = .ok (.value v) w' ∧ ∀ a', Has a' n ((d, v) :: L) → K a' w') : Tri w0 (OpG P o K Q) n L H := fun a w ha hw => by
  refine .inl ?_
  obtain ⟨v, w', hr, hk⟩ := he a w ha hw
  unfold Oper.wp
  rw [hr, Oper.upon_value, hd]
  exact hk _ (ha.put hn v)

theorem Tri.skipW (hd : o.dst = none) (he : ∀ a w, Has a n L → St w0 w H → ∃ w', (execOp a.eval o).run P w = .ok .skip w' ∧ ∀ a', Has a' n L → K a' w') : Tri w0 (OpG P o K Q) n L H := fun a w ha hw => by
  refine .inl ?_
  obtain ⟨w', hr, hk⟩ := he a w ha hw
  unfold Oper.wp
  rw [hr, Oper.upon_skip, hd]
  exact hk _ ha

variable {ty : TypeId} {pos : String} {aft : Array Edge} {g : Option (Nat × Bool)}

theorem o_move {x : Operand} {v : Value} (hx : ev L x = some v) (hn : Nat.blt d n = true) (k : Tri w0 K n ((d, v) :: L) H) : Tri w0 (OpG P ⟨some d, .move x, ty, pos, aft, g⟩ K Q) n L H :=
  Tri.val rfl hn v (fun a w ha _ => by simp [execOp, ha.eval hx]) k
theorem o_assign {x : Operand} {v : Value} (hx : ev L x = some v) (hn : Nat.blt d n = true) (k : Tri w0 K n ((d, v) :: L) H) : Tri w0 (OpG P ⟨some d, .assign x, ty, pos, aft, g⟩ K Q) n L H :=
  Tri.val rfl hn v (fun a w ha _ => by simp [execOp, ha.eval hx]) k
theorem o_pickT {c x y : Operand} {v : Value} {b : Bool} (hc : ev L c = some (.bool b)) (hb : b = true) (hx : ev L x = some v) (hn : Nat.blt d n = true) (k : Tri w0 K n ((d, v) :: L) H) : Tri w0 (OpG P ⟨some d, .pick c x y, ty, pos, aft, g⟩ K Q) n L H :=
  Tri.val rfl hn v (fun a w ha _ => by simp [execOp, ha.eval hx, ha.eval hc, asBool, hb]) k
theorem o_pickF {c x y : Operand} {v : Value} {b : Bool} (hc : ev L c = some (.bool b)) (hb : b = false) (hy : ev L y = some v) (hn : Nat.blt d n = true) (k : Tri w0 K n ((d, v) :: L) H) : Tri w0 (OpG P ⟨some d, .pick c x y, ty, pos, aft, g⟩ K Q) n L H :=
  Tri.val rfl hn v (fun a w ha _ => by simp [execOp, ha.eval hy, ha.eval hc, asBool, hb]) k

/-! whole numbers -/
theorem o_add64 {t1 t2 : TypeId} {x y : Operand} {i j : Int} (hx : ev L x = some (.int .i64 i)) (hy : ev L y = some (.int .i64 j)) (hn : Nat.blt d n = true) (hb : -9223372036854775808 ≤ i + j ∧ i + j ≤ 9223372036854775807) (k : Tri w0 K n ((d, .int .i64 (i + j)) :: L) H) :
    Tri w0 (OpG P ⟨some d, .binOp .add t1 x y t2, ty, pos, aft, g⟩ K Q) n L H :=
  Tri.val rfl hn _ (fun a w ha _ => by simp only [execOp, ha.eval hx, ha.eval hy]; simp [go_sem, IntWalk.i64_in _ hb]) k
theorem o_sub64 {t1 t2 : TypeId} {x y : Operand} {i j : Int} (hx : ev L x = some (.int .i64 i)) (hy : ev L y = some (.int .i64 j)) (hn : Nat.blt d n = true) (hb : -9223372036854775808 ≤ i - j ∧ i - j ≤ 9223372036854775807) (k : Tri w0 K n ((d, .int .i64 (i - j)) :: L) H) :
    Tri w0 (OpG P ⟨some d, .binOp .sub t1 x y t2, ty, pos, aft, g⟩ K Q) n L H :=
  Tri.val rfl hn _ (fun a w ha _ => by simp only [execOp, ha.eval hx, ha.eval hy]; simp [go_sem, IntWalk.i64_in _ hb]) k
theorem o_mul64 {t1 t2 : TypeId} {x y : Operand} {i j : Int} (hx : ev L x = some (.int .i64 i)) (hy : ev L y = some (.int .i64 j)) (hn : Nat.blt d n = true) (hb : -9223372036854775808 ≤ i * j ∧ i * j ≤ 9223372036854775807) (k : Tri w0 K n ((d, .int .i64 (i * j)) :: L) H) :
    Tri w0 (OpG P ⟨some d, .binOp .mul t1 x y t2, ty, pos, aft, g⟩ K Q) n L H :=
  Tri.val rfl hn _ (fun a w ha _ => by simp only [execOp, ha.eval hx, ha.eval hy]; simp [go_sem, IntWalk.i64_in _ hb]) k
theorem o_add {t1 t2 : TypeId} {x y : Operand} {ik : IntKind} {i j : Int} (hx : ev L x = some (.int ik i)) (hy : ev L y = some (.int ik j)) (hn : Nat.blt d n = true) (k : Tri w0 K n ((d, .int ik (ik.wrap (i + j))) :: L) H) :
    Tri w0 (OpG P ⟨some d, .binOp .add t1 x y t2, ty, pos, aft, g⟩ K Q) n L H :=
  Tri.val rfl hn _ (fun a w ha _ => by simp only [execOp, ha.eval hx, ha.eval hy]; simp [go_sem]) k
theorem o_sub {t1 t2 : TypeId} {x y : Operand} {ik : IntKind} {i j : Int} (hx : ev L x = some (.int ik i)) (hy : ev L y = some (.int ik j)) (hn : Nat.blt d n = true) (k : Tri w0 K n ((d, .int ik (ik.wrap (i - j))) :: L) H) :
    Tri w0 (OpG P ⟨some d, .binOp .sub t1 x y t2, ty, pos, aft, g⟩ K Q) n L H :=
  Tri.val rfl hn _ (fun a w ha _ => by simp only [execOp, ha.eval hx, ha.eval hy]; simp [go_sem]) k
theorem o_mul {t1 t2 : TypeId} {x y : Operand} {ik : IntKind} {i j : Int} (hx : ev L x = some (.int ik i)) (hy : ev L y = some (.int ik j)) (hn : Nat.blt d n = true) (k : Tri w0 K n ((d, .int ik (ik.wrap (i * j))) :: L) H) :
    Tri w0 (OpG P ⟨some d, .binOp .mul t1 x y t2, ty, pos, aft, g⟩ K Q) n L H :=
  Tri.val rfl hn _ (fun a w ha _ => by simp only [execOp, ha.eval hx, ha.eval hy]; simp [go_sem]) k
theorem o_lss {t1 t2 : TypeId} {x y : Operand} {ik : IntKind} {i j : Int} (hx : ev L x = some (.int ik i)) (hy : ev L y = some (.int ik j)) (hn : Nat.blt d n = true) (k : Tri w0 K n ((d, .bool (decide (i < j))) :: L) H) :
    Tri w0 (OpG P ⟨some d, .binOp .lss t1 x y t2, ty, pos, aft, g⟩ K Q) n L H :=
  Tri.val rfl hn _ (fun a w ha _ => by simp only [execOp, ha.eval hx, ha.eval hy]; simp [go_sem]) k
theorem o_leq {t1 t2 : TypeId} {x y : Operand} {ik : IntKind} {i j : Int} (hx : ev L x = some (.int ik i)) (hy : ev L y = some (.int ik j)) (hn : Nat.blt d n = true) (k : Tri w0 K n ((d, .bool (decide (i ≤ j))) :: L) H) :
    Tri w0 (OpG P ⟨some d, .binOp .leq t1 x y t2, ty, pos, aft, g⟩ K Q) n L H :=
  Tri.val rfl hn _ (fun a w ha _ => by simp only [execOp, ha.eval hx, ha.eval hy]; simp [go_sem]) k
theorem o_gtr {t1 t2 : TypeId} {x y : Operand} {ik : IntKind} {i j : Int} (hx : ev L x = some (.int ik i)) (hy : ev L y = some (.int ik j)) (hn : Nat.blt d n = true) (k : Tri w0 K n ((d, .bool (decide (j < i))) :: L) H) :
    Tri w0 (OpG P ⟨some d, .binOp .gtr t1 x y t2, ty, pos, aft, g⟩ K Q) n L H :=
  Tri.val rfl hn _ (fun a w ha _ => by simp only [execOp, ha.eval hx, ha.eval hy]; simp [go_sem]) k
theorem o_geq {t1 t2 : TypeId} {x y : Operand} {ik : IntKind} {i j : Int} (hx : ev L x = some (.int ik i)) (hy : ev L y = some (.int ik j)) (hn : Nat.blt d n = true) (k : Tri w0 K n ((d, .bool (decide (j ≤ i))) :: L) H) :
    Tri w0 (OpG P ⟨some d, .binOp .geq t1 x y t2, ty, pos, aft, g⟩ K Q) n L H :=
  Tri.val rfl hn _ (fun a w ha _ => by simp only [execOp, ha.eval hx, ha.eval hy]; simp [go_sem]) k
theorem o_eql {t1 t2 : TypeId} {x y : Operand} {ik : IntKind} {i j : Int} (hx : ev L x = some (.int ik i)) (hy : ev L y = some (.int ik j)) (hn : Nat.blt d n = true) (k : Tri w0 K n ((d, .bool (decide (i = j))) :: L) H) :
    Tri w0 (OpG P ⟨some d, .binOp .eql t1 x y t2, ty, pos, aft, g⟩ K Q) n L H :=
  Tri.val rfl hn _ (fun a w ha _ => by simp only [execOp, ha.eval hx, ha.eval hy]; simp [go_sem]; rfl) k
theorem o_neq {t1 t2 : TypeId} {x y : Operand} {ik : IntKind} {i j : Int} (hx : ev L x = some (.int ik i)) (hy : ev L y = some (.int ik j)) (hn : Nat.blt d n = true) (k : Tri w0 K n ((d, .bool (decide (i ≠ j))) :: L) H) :
    Tri w0 (OpG P ⟨some d, .binOp .neq t1 x y t2, ty, pos, aft, g⟩ K Q) n L H :=
  Tri.val rfl hn _ (fun a w ha _ => by
    have e : (i != j) = decide (i ≠ j) := by rw [bne_eq, decide_not]; rfl
    simp only [execOp, ha.eval hx, ha.eval hy]; simp [go_sem, e]) k
theorem o_rem {t1 t2 : TypeId} {x y : Operand} {ik : IntKind} {i j : Int} (hx : ev L x = some (.int ik i)) (hy : ev L y = some (.int ik j)) (hn : Nat.blt d n = true) (hi : 0 ≤ i) (hj : 0 < j) (k : Tri w0 K n ((d, .int ik (i % j)) :: L) H) :
    Tri w0 (OpG P ⟨some d, .binOp .rem t1 x y t2, ty, pos, aft, g⟩ K Q) n L H :=
  Tri.val rfl hn _ (fun a w ha _ => by
    have hj' : j ≠ 0 := by omega
    simp only [execOp, ha.eval hx, ha.eval hy]; simp [go_sem, hj', Int.tmod_eq_emod_of_nonneg hi]) k
theorem o_remT {t1 t2 : TypeId} {x y : Operand} {ik : IntKind} {i j : Int} (hx : ev L x = some (.int ik i)) (hy : ev L y = some (.int ik j)) (hn : Nat.blt d n = true) (hj : j ≠ 0) (k : Tri w0 K n ((d, .int ik (Int.tmod i j)) :: L) H) :
    Tri w0 (OpG P ⟨some d, .binOp .rem t1 x y t2, ty, pos, aft, g⟩ K Q) n L H :=
  Tri.val rfl hn _ (fun a w ha _ => by simp only [execOp, ha.eval hx, ha.eval hy]; simp [go_sem, hj]) k
theorem o_quo {t1 t2 : TypeId} {x y : Operand} {i j : Int} (hx : ev L x = some (.int .i64 i)) (hy : ev L y = some (.int .i64 j)) (hn : Nat.blt d n = true) (hi : 0 ≤ i ∧ i ≤ 9223372036854775807) (hj : 0 < j) (k : Tri w0 K n ((d, .int .i64 (i / j)) :: L) H) :
    Tri w0 (OpG P ⟨some d, .binOp .quo t1 x y t2, ty, pos, aft, g⟩ K Q) n L H :=
  Tri.val rfl hn _ (fun a w ha _ => by
    have hj' : j ≠ 0 := by omega
    have h1 : 0 ≤ i / j := Int.ediv_nonneg hi.1 (by omega)
    have h2 : i / j ≤ i := Int.ediv_le_self j hi.1
    simp only [execOp, ha.eval hx, ha.eval hy]; simp [go_sem, hj', Int.tdiv_eq_ediv_of_nonneg hi.1, IntWalk.i64_in _ (show -9223372036854775808 ≤ i / j ∧ i / j ≤ 9223372036854775807 by omega)]) k
theorem o_shr {t1 t2 : TypeId} {x y : Operand} {ik yk : IntKind} {i j : Int} (hx : ev L x = some (.int ik i)) (hy : ev L y = some (.int yk j)) (hn : Nat.blt d n = true) (hj : 0 ≤ j) (k : Tri w0 K n ((d, .int ik (i / 2 ^ min j.toNat ik.bits)) :: L) H) :
    Tri w0 (OpG P ⟨some d, .binOp .shr t1 x y t2, ty, pos, aft, g⟩ K Q) n L H :=
  Tri.val rfl hn _ (fun a w ha _ => by
    have hj' : ¬ j < 0 := by omega
    have he : i.fdiv (2 ^ min j.toNat ik.bits) = i / 2 ^ min j.toNat ik.bits := Int.fdiv_eq_ediv_of_nonneg i (by exact Int.le_of_lt (Int.pow_pos (by decide)))
    simp only [execOp, ha.eval hx, ha.eval hy]; simp [go_sem, Op.shift, hj']; exact he) k
theorem o_shl {t1 t2 : TypeId} {x y : Operand} {ik yk : IntKind} {i j : Int} (hx : ev L x = some (.int ik i)) (hy : ev L y = some (.int yk j)) (hn : Nat.blt d n = true) (hj : 0 ≤ j) (k : Tri w0 K n ((d, .int ik (ik.wrap (i * 2 ^ min j.toNat ik.bits))) :: L) H) :
    Tri w0 (OpG P ⟨some d, .binOp .shl t1 x y t2, ty, pos, aft, g⟩ K Q) n L H :=
  Tri.val rfl hn _ (fun a w ha _ => by
    have hj' : ¬ j < 0 := by omega
    simp only [execOp, ha.eval hx, ha.eval hy]; simp [go_sem, Op.shift, hj']) k
theorem o_and {t1 t2 : TypeId} {x y : Operand} {ik : IntKind} {i j : Int} (hx : ev L x = some (.int ik i)) (hy : ev L y = some (.int ik j)) (hn : Nat.blt d n = true) (k : Tri w0 K n ((d, .int ik (Go.bits .and ik i j)) :: L) H) :
    Tri w0 (OpG P ⟨some d, .binOp .and t1 x y t2, ty, pos, aft, g⟩ K Q) n L H :=
  Tri.val rfl hn _ (fun a w ha _ => by simp only [execOp, ha.eval hx, ha.eval hy]; simp [go_sem, Op.intBits, Go.bits]) k
theorem o_or {t1 t2 : TypeId} {x y : Operand} {ik : IntKind} {i j : Int} (hx : ev L x = some (.int ik i)) (hy : ev L y = some (.int ik j)) (hn : Nat.blt d n = true) (k : Tri w0 K n ((d, .int ik (Go.bits .or ik i j)) :: L) H) :
    Tri w0 (OpG P ⟨some d, .binOp .or t1 x y t2, ty, pos, aft, g⟩ K Q) n L H :=
  Tri.val rfl hn _ (fun a w ha _ => by simp only [execOp, ha.eval hx, ha.eval hy]; simp [go_sem, Op.intBits, Go.bits]) k
theorem o_xor {t1 t2 : TypeId} {x y : Operand} {ik : IntKind} {i j : Int} (hx : ev L x = some (.int ik i)) (hy : ev L y = some (.int ik j)) (hn : Nat.blt d n = true) (k : Tri w0 K n ((d, .int ik (Go.bits .xor ik i j)) :: L) H) :
    Tri w0 (OpG P ⟨some d, .binOp .xor t1 x y t2, ty, pos, aft, g⟩ K Q) n L H :=
  Tri.val rfl hn _ (fun a w ha _ => by simp only [execOp, ha.eval hx, ha.eval hy]; simp [go_sem, Op.intBits, Go.bits]) k
theorem o_not {t1 : TypeId} {x : Operand} {b : Bool} (hx : ev L x = some (.bool b)) (hn : Nat.blt d n = true) (k : Tri w0 K n ((d, .bool (!b)) :: L) H) :
    Tri w0 (OpG P ⟨some d, .unOp .not t1 x, ty, pos, aft, g⟩ K Q) n L H :=
  Tri.val rfl hn _ (fun a w ha _ => by simp only [execOp, ha.eval hx]; simp [Op.unary]) k
theorem o_notD {t1 : TypeId} {x : Operand} {p : Prop} {dp : Decidable p} (hx : ev L x = some (.bool (@decide p dp))) (hn : Nat.blt d n = true) (k : Tri w0 K n ((d, .bool (decide (¬ p))) :: L) H) :
    Tri w0 (OpG P ⟨some d, .unOp .not t1 x, ty, pos, aft, g⟩ K Q) n L H := o_not hx hn (by rw [decide_not] at k; exact k)
theorem o_neg {t1 : TypeId} {x : Operand} {ik : IntKind} {i : Int} (hx : ev L x = some (.int ik i)) (hn : Nat.blt d n = true) (k : Tri w0 K n ((d, .int ik (ik.wrap (0 - i))) :: L) H) :
    Tri w0 (OpG P ⟨some d, .unOp .neg t1 x, ty, pos, aft, g⟩ K Q) n L H :=
  Tri.val rfl hn _ (fun a w ha _ => by simp only [execOp, ha.eval hx]; simp [Op.unary, go_sem]) k
theorem o_com {t1 : TypeId} {x : Operand} {ik : IntKind} {i : Int} (hx : ev L x = some (.int ik i)) (hn : Nat.blt d n = true) (k : Tri w0 K n ((d, .int ik (Go.bits .xor ik (if ik.signed then -1 else ik.max) i)) :: L) H) :
    Tri w0 (OpG P ⟨some d, .unOp .xor t1 x, ty, pos, aft, g⟩ K Q) n L H :=
  Tri.val rfl hn _ (fun a w ha _ => by simp only [execOp, ha.eval hx]; simp [Op.unary, Op.intBits, Go.bits]) k
theorem o_conv {s t : TypeId} {x : Operand} {ik jk sk : IntKind} {i : Int} [hs : TInt P s sk] [ht : TInt P t jk] (hx : ev L x = some (.int ik i)) (hn : Nat.blt d n = true) (k : Tri w0 K n ((d, .int jk (jk.wrap i)) :: L) H) :
    Tri w0 (OpG P ⟨some d, .convert s t x, ty, pos, aft, g⟩ K Q) n L H :=
  Tri.val rfl hn _ (fun a w ha _ => by simp only [execOp, ha.eval hx, convert]; simp [run_underlying hs.ok, run_underlying ht.ok, go_sem]) k
theorem o_convI {s t : TypeId} {x : Operand} {ik jk sk : IntKind} {i : Int} [TInt P s sk] [TInt P t jk] (hx : ev L x = some (.int ik i)) (hn : Nat.blt d n = true) (hw : jk.wrap i = i) (k : Tri w0 K n ((d, .int jk i) :: L) H) :
    Tri w0 (OpG P ⟨some d, .convert s t x, ty, pos, aft, g⟩ K Q) n L H := o_conv hx hn (by rw [hw]; exact k)
theorem o_extract {x : Operand} {vs : Array Value} {ix : Nat} {v : Value} (hx : ev L x = some (.tuple vs)) (hv : vs.toList[ix]? = some v) (hn : Nat.blt d n = true) (k : Tri w0 K n ((d, v) :: L) H) :
    Tri w0 (OpG P ⟨some d, .extract x ix, ty, pos, aft, g⟩ K Q) n L H :=
  Tri.val rfl hn _ (fun a w ha _ => by simp only [execOp, ha.eval hx]; simp [Instr.extract, show vs[ix]? = some v by rw [← Array.getElem?_toList]; exact hv]) k
theorem o_nilCheck {x : Operand} {p : Addr} (hx : ev L x = some (.pointer (some p))) (hn : Nat.blt d n = true) (k : Tri w0 K n ((d, .pointer (some p)) :: L) H) :
    Tri w0 (OpG P ⟨some d, .nilCheck x, ty, pos, aft, g⟩ K Q) n L H :=
  Tri.val rfl hn _ (fun a w ha _ => by simp only [execOp, ha.eval hx]; simp) k
theorem o_fieldAddr {T : TypeId} {x : Operand} {f off b o' : Nat} [hT : TField P T f off] (hx : ev L x = some (.pointer (some ⟨b, o', none⟩))) (hn : Nat.blt d n = true) (k : Tri w0 K n ((d, .pointer (some ⟨b, o' + off, none⟩)) :: L) H) :
    Tri w0 (OpG P ⟨some d, .fieldAddr T x f, ty, pos, aft, g⟩ K Q) n L H :=
  Tri.val rfl hn _ (fun a w ha _ => by
    obtain ⟨fs, fd, h1, h2, h3, h4⟩ := hT.ok
    cases hi : P.info? fd.type with
    | none => simp [hi] at h4
    | some i =>
      have hz : ¬ i.size = 0 := by simpa [hi] using h4
      subst h3
      simp only [execOp, ha.eval hx]
      simp [Instr.fieldAt, run_underlying h1, h2, Instr.sureAddr, fieldPlace, sizeOf, typeInfo, hi, hz, Addr.add_lit]) k

end
end Go.Gv
