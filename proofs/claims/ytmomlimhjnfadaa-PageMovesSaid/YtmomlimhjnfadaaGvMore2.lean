/- More rules: cuts with three numbers, closures. -/
import Derived.Test.YtmomlimhjnfadaaGvYield
import Derived.Test.YtmomlimhjnfadaaGvRow
namespace Go.Gv
open Go Go.RowKit
set_option linter.unusedVariables false
set_option linter.unusedSimpArgs false

section
variable {P : Program} {w0 : World} {n : NT} {L : Slots} {H H' H1 H2 : List Atom} {Q : Exit → Act → World → Prop} {K : Act → World → Prop} {d : Nat}
variable {ty : TypeId} {pos : String} {aft : Array Edge} {g : Option (Nat × Bool)}
theorem slice3_run {T e : TypeId} {size : Nat} [hT : TSlice P T e] [hs : TSize P e size] {w : World} {A : Option Addr} {m c lo hi mx : Nat} {ol oh om : Option Value} (hlo : (∃ ik, ol = some (.int ik (lo : Int))) ∨ ol = none ∧ lo = 0) (hhi : ∃ jk, oh = some (.int jk (hi : Int))) (hmx : ∃ kk, om = some (.int kk (mx : Int))) (h1 : lo ≤ hi) (h2 : hi ≤ mx) (h3 : mx ≤ c) :
    (Instr.sliceAt T (.slice A m c) ol oh om).run P w = .ok (.slice (if mx = lo then A else A.map (·.add (lo * size))) (hi - lo) (mx - lo)) w := by
  have b2 : (0 : Int) ≤ lo ∧ (lo : Int) ≤ hi := by omega
  have b1 : (0 : Int) ≤ hi ∧ (hi : Int) ≤ mx := by omega
  have b0 : (0 : Int) ≤ mx ∧ (mx : Int) ≤ c := by omega
  obtain ⟨jk, rfl⟩ := hhi
  obtain ⟨kk, rfl⟩ := hmx
  rcases hlo with ⟨ik, rfl⟩ | ⟨rfl, rfl⟩ <;>
    simp [Instr.sliceAt, Instr.slice, run_underlying hT.ok, Instr.sliceBounds, Instr.sliceBound, asIntOf, size_run hs.ok, b0, b1, b2, h1, h2, h3]
theorem o_slice3 {T e : TypeId} {size : Nat} {x y z : Operand} {ol : Option Operand} {A : Option Addr} {m c lo hi mx : Nat} {vl : Option Value} {jk kk : IntKind} [hT : TSlice P T e] [hs : TSize P e size] (hx : ev L x = some (.slice A m c)) (hol : ∀ a, Has a n L → ol.map a.eval = vl) (hlo : (∃ ik, vl = some (.int ik (lo : Int))) ∨ vl = none ∧ lo = 0) (hy : ev L y = some (.int jk (hi : Int))) (hz : ev L z = some (.int kk (mx : Int))) (hlh : lo ≤ hi) (hhm : hi ≤ mx) (hmc : mx ≤ c) (hn : Nat.blt d n = true)
    (k : Tri w0 K n ((d, .slice (if mx = lo then A else A.map (·.add (lo * size))) (hi - lo) (mx - lo)) :: L) H) :
    Tri w0 (OpG P ⟨some d, .slice T x ol (some y) (some z), ty, pos, aft, g⟩ K Q) n L H := by
  refine Tri.val rfl hn _ (fun a w ha _ => ?_) k
  simp [execOp, ha.eval hx, hol a ha, ha.eval hy, ha.eval hz, slice3_run (P := P) (T := T) (e := e) (size := size) (w := w) (A := A) (m := m) (c := c) (lo := lo) (hi := hi) (mx := mx) (ol := vl) hlo ⟨jk, rfl⟩ ⟨kk, rfl⟩ hlh hhm hmc]
theorem o_sliceH {T e : TypeId} {size : Nat} {x : Operand} {ol oh : Option Operand} {A : Option Addr} {m c lo hi : Nat} {vl vh : Option Value} [hT : TSlice P T e] [hs : TSize P e size] (hx : ev L x = some (.slice A m c)) (hol : ∀ a, Has a n L → ol.map a.eval = vl) (hoh : ∀ a, Has a n L → oh.map a.eval = vh) (hlo : (∃ ik, vl = some (.int ik (lo : Int))) ∨ vl = none ∧ lo = 0) (hhi : (∃ jk, vh = some (.int jk (hi : Int))) ∨ vh = none ∧ hi = m) (hlh : lo ≤ hi) (hhm : hi ≤ c) (hn : Nat.blt d n = true)
    (k : Tri w0 K n ((d, .slice (if c = lo then A else A.map (·.add (lo * size))) (hi - lo) (c - lo)) :: L) H) :
    Tri w0 (OpG P ⟨some d, .slice T x ol oh none, ty, pos, aft, g⟩ K Q) n L H := by
  refine Tri.val rfl hn _ (fun a w ha hw => ?_) k
  simp [execOp, ha.eval hx, hol a ha, hoh a ha, slice_run (P := P) (T := T) (e := e) (size := size) (w := w) (A := A) (m := m) (c := c) hlo hhi hlh hhm]
/-- a function value with what it holds -/
theorem o_makeFunc {f : FuncId} {cap : List Operand} {vs : List Value} (hc : evs L cap vs) (hn : Nat.blt d n = true) (k : Tri w0 K n ((d, .func (.func f) #[] vs.toArray) :: L) H) :
    Tri w0 (OpG P ⟨some d, .makeFunc (.func f) #[] cap.toArray, ty, pos, aft, g⟩ K Q) n L H :=
  Tri.val rfl hn _ (fun a w ha _ => by simp [execOp, evs.map ha hc, Instr.makeFunc]) k
/-- a call of a function value -/
theorem o_callF {f : FuncId} {x : Operand} {args : List Operand} {ts : Array TypeId} {vs cs : List Value} {Pre : List Atom} {R : Value → List Atom → Prop} [TFn P f] (hx : ev L x = some (.func (.func f) #[] cs.toArray)) (hs : Spec P f (vs ++ cs).toArray Pre R) (hargs : evs L args vs) (p : Pulls H Pre H') (hn : Nat.blt d n = true)
    (k : ∀ v Hq, R v Hq → Tri w0 K n ((d, v) :: L) (Hq ++ H')) :
    Tri w0 (OpG P ⟨some d, .call { callee := .value x, args := args.toArray, argTypes := ts }, ty, pos, aft, g⟩ K Q) n L H := fun a w ha hw => by
  refine .inl ?_
  unfold Oper.wp
  have hr : (execOp a.eval ⟨some d, .call { callee := .value x, args := args.toArray, argTypes := ts }, ty, pos, aft, g⟩).run P w = .ok (.enter f (vs ++ cs).toArray) w := by
    have he : (List.map a.eval args).toArray = vs.toArray := by rw [evs.map ha hargs]
    simp [execOp, resolve, Deferred.ofValue, ha.eval hx, invoke, he, fn_run (P := P) (f := f)]
  rw [hr, Oper.upon_enter]
  refine (hs w0 w H' (hw.pulls p)).mono ?_
  intro e w' he
  cases e with
  | returned v => obtain ⟨H'', g1, g2⟩ := he; exact k v H'' g1 _ w' (ha.put hn v) g2
  | panicked c => exact he.elim
  | outgrown => exact he.elim
/-- the part of a seq, walked to what both ways meet at -/
theorem TriR.seqMeet {ro : Option Nat} {α : Type} {c d : Code} (Lx : α → Slots) (Hx : α → List Atom)
    (h1 : Tri w0 (Code.wr ro P c (Exit.then (fun a w => ∃ y, Has a n (Lx y) ∧ St w0 w (Hx y)) Q)) n L H) (h2 : ∀ x, Tri w0 (Code.wr ro P d Q) n (Lx x) (Hx x)) : Tri w0 (Code.wr ro P (Code.seq c d) Q) n L H := fun a w ha hw => by
  refine wpIn_seq (wpIn_mono (h1 a w ha hw) ?_)
  intro e a' w' he
  cases e with
  | normal => obtain ⟨y, g1, g2⟩ := he; exact h2 y a' w' g1 g2
  | exit id => exact he
  | goto t => exact he
  | ret => exact he
  | panic c => exact he
  | outgrown => exact he
theorem Tri.rdEnd {α β : Type} {idx : α → Nat} {Hx : α → List Atom} {Jc : β → Code} {Hj : β → List Atom} {k : Nat} {h0 : PH} {R : List Atom} (y : α) (hk : idx y = k + 1) (p : Pulls H (Hx y ++ [Ex h0]) R) : Tri w0 (RdQ w0 idx Hx Jc Hj k h0 .normal) n L H := fun a w ha hw => ⟨y, hk, (hw.pulls p).1, Sat.left (hw.pulls p).2⟩
theorem Tri.rdRet {α β : Type} {idx : α → Nat} {Hx : α → List Atom} {Jc : β → Code} {Hj : β → List Atom} {k : Nat} {h0 : PH} {R : List Atom} (y : β) (hj : Jc y = .ret) (p : Pulls H (Hj y ++ [Ex h0]) R) : Tri w0 (RdQ w0 idx Hx Jc Hj k h0 .ret) n L H := fun a w ha hw => ⟨y, hj, (hw.pulls p).1, Sat.left (hw.pulls p).2⟩
theorem Tri.rdExit {α β : Type} {idx : α → Nat} {Hx : α → List Atom} {Jc : β → Code} {Hj : β → List Atom} {k id : Nat} {h0 : PH} {R : List Atom} (y : β) (hj : Jc y = .exit id) (p : Pulls H (Hj y ++ [Ex h0]) R) : Tri w0 (RdQ w0 idx Hx Jc Hj k h0 (.exit id)) n L H := fun a w ha hw => ⟨y, hj, (hw.pulls p).1, Sat.left (hw.pulls p).2⟩
end
theorem Iter.of {P : Program} {g : FuncId} {lb : List Value} {C : List Atom} {xs : List (List Value)}
    (h : ∀ (w0 : World) (l : Nat) (I : Nat → Atom) (J : Atom), (∀ k vs, xs[k]? = some vs → YSpec P w0 l vs.toArray (I k) (I (k + 1)) J) → ∀ w h0, St w0 w ((I 0 :: C) ++ [Ex h0]) →
      Calls P g ((.func (.yield l) #[] #[] :: lb).toArray) w (Ret fun _ w' => St w0 w' ((I xs.length :: C) ++ [Ex h0]) ∨ St w0 w' ((J :: C) ++ [Ex h0]))) : Iter P g lb C xs := fun w0 l I J hY w H hw => by
  have hw' : St w0 w ((I 0 :: C) ++ H) := hw
  obtain ⟨h0, h1, h2⟩ := St.aside hw'
  have e : (#[.func (.yield l) #[] #[]] ++ lb.toArray : Array Value) = (.func (.yield l) #[] #[] :: lb).toArray := by simp
  rw [e]
  refine (h w0 l I J hY w h0 h1).mono ?_
  intro e w' he
  cases e with
  | returned v => exact he.imp (fun q => h2 w' _ q) (fun q => h2 w' _ q)
  | panicked c => exact he.elim
  | outgrown => exact he.elim
end Go.Gv
