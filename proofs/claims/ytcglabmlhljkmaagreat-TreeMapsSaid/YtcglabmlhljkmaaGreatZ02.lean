/- Texts of this claim, put together: GvW, GvTy, GvSeat. -/
import Derived.Test.YtcglabmlhljkmaaGreatZ00
import Derived.Test.YtcglabmlhljkmaaGreatZ01
import Derived.Test.YtcglabmlhljkmaaGreatProg
section
/- The words of a walk as theorems whose side conditions meet themselves. -/
namespace Go.Gv
open Go Go.RowKit
set_option linter.unusedVariables false
set_option linter.unusedSimpArgs false
theorem cA {α : Type} {a : α} {xs ys : List α} : (a :: xs) ++ ys = a :: (xs ++ ys) := rfl
theorem nA {α : Type} {xs : List α} : [] ++ xs = xs := rfl
theorem Wp {H : List Atom} {A : Atom} {H' : List Atom} (p : Pull H A H' := by ((try dsimp only [cA, nA]); first | ((with_reducible repeat constructor); done) | (repeat (first | exact Pull.head | apply Pull.tail)))) : Pull H A H' := p
theorem Wps {H As H' : List Atom} (p : Pulls H As H' := by ((try dsimp only [cA, nA]); repeat (first | exact Pulls.nil | (apply Pulls.cons; first | ((with_reducible repeat constructor); done) | (repeat (first | exact Pull.head | apply Pull.tail)))))) : Pulls H As H' := p
theorem Wev {L : Slots} {xs : List Operand} {vs : List Value} (h : evs L xs vs := by (repeat (first | exact trivial | refine And.intro (by rfl) ?_))) : evs L xs vs := h
theorem Wpe {L : Slots} {xs : List (Nat × Operand)} {vs : List (Nat × Value)} (h : pev L xs vs := by (repeat (first | exact pev.nil | (apply pev.cons; (case a => rfl))))) : pev L xs vs := h
theorem Wsl {L l : Slots} (h : SubL L l := by (try dsimp only); (repeat (first | exact trivial | refine And.intro (by rfl) ?_))) : SubL L l := h
section
variable {P : Program} {w0 : World} {n : NT} {L : Slots} {H H' H1 H2 R : List Atom} {Q : Exit → Act → World → Prop} {K G : Act → World → Prop} {o : Oper} {d : Nat}
variable {ty : TypeId} {pos : String} {aft : Array Edge} {g : Option (Nat × Bool)} {rO : Option Nat}
theorem ZTriop {ops : Array Oper} {o : Oper} {rest : List Oper} (h : Tri w0 (OpG P o (wpList P ops Q rest) Q) n L H) (hg : o.guard = none := by rfl) : Tri w0 (wpList P ops Q (o :: rest)) n L H := Tri.op (hg := hg) (h := h)
theorem Zz (k : Nat) {i : Bool} (j : Bool) (t : Tri w0 G n ((k, .bool j) :: L) H) (h : look L k = some (.bool i) := by rfl) (hi : i = j := by rfl) : Tri w0 G n L H := Tri.setb (k := k) (j := j) (h := h) (hi := hi) (t := t)
theorem Zi (k : Nat) {ik : IntKind} {i : Int} (j : Int) (t : Tri w0 G n ((k, .int ik j) :: L) H) (h : look L k = some (.int ik i) := by rfl) (hi : i = j := by omega) : Tri w0 G n L H := Tri.seti (k := k) (j := j) (h := h) (hi := hi) (t := t)
theorem Zv (k : Nat) {u : Value} (v : Value) (t : Tri w0 G n ((k, v) :: L) H) (h : look L k = some u := by rfl) (hv : u = v := by rfl) : Tri w0 G n L H := Tri.setv (k := k) (v := v) (h := h) (hv := hv) (t := t)
theorem ZMb {ops : Array Oper} {Hs F : List Atom} {m : Nat} {ls : Array Bool} (k : Nat) {i : Bool} (j : Bool) (t : TriM P w0 ops Q Hs m ls n ((k, .bool j) :: L) F) (h : look L k = some (.bool i) := by rfl) (hi : i = j := by rfl) : TriM P w0 ops Q Hs m ls n L F := TriM.setb (k := k) (j := j) (h := h) (hi := hi) (t := t)
theorem ZMi {F Hs : List Atom} {ops : Array Oper} {m : Nat} {ls : Array Bool} (k : Nat) {ik : IntKind} {i : Int} (j : Int) (t : TriM P w0 ops Q Hs m ls n ((k, .int ik j) :: L) F) (h : look L k = some (.int ik i) := by rfl) (hi : i = j := by omega) : TriM P w0 ops Q Hs m ls n L F := TriM.seti (k := k) (j := j) (h := h) (hi := hi) (t := t)
theorem ZMv {ops : Array Oper} {Hs F : List Atom} {m : Nat} {ls : Array Bool} (k : Nat) {u : Value} (v : Value) (t : TriM P w0 ops Q Hs m ls n ((k, v) :: L) F) (h : look L k = some u := by rfl) (hv : u = v := by rfl) : TriM P w0 ops Q Hs m ls n L F := TriM.setv (k := k) (v := v) (h := h) (hv := hv) (t := t)
theorem Zal {T : TypeId} {z : List Value} [hz : TZero P T z] (k : ∀ b, Tri w0 K n ((d, .pointer (some ⟨b, 0, none⟩)) :: L) (blk b T z :: H)) (hn : Nat.blt d n = true := by rfl) : Tri w0 (OpG P ⟨some d, .alloc T, ty, pos, aft, g⟩ K Q) n L H := o_alloc (hn := hn) (k := k)
theorem Zap {t e : TypeId} {size bytes : Nat} {z : List Value} [TSlice P t e] [TElem P e size bytes z] {s x : Operand} {v u : Value} {m1 m2 : Nat} {xs news : List Value} (k : ∀ v', Tri w0 K n ((d, v') :: L) (own e size v' (m1 + m2) (xs ++ news) :: H')) (hx : ev L s = some v := by rfl) (hy : ev L x = some u := by rfl) (p : Pull H (own e size v m1 xs) H' := by exact Wp) (hr : ∀ w, St w0 w H → RdW w u m2 news := by (first | rfl | assumption)) (hl : news.length = m2 * size := by (first | rfl | assumption | (simp; omega) | simp)) (h1 : ∀ y ∈ news, y.oneCell' = true := by rfl) (hb : (m1 + m2) * bytes ≤ 140737488355328 := by omega) (hn : Nat.blt d n = true := by rfl) : Tri w0 (OpG P ⟨some d, .call { callee := .builtin .append, args := #[s, x], argTypes := #[t, t] }, ty, pos, aft, g⟩ K Q) n L H := o_append (hx := hx) (hy := hy) (p := p) (hr := hr) (hl := hl) (h1 := h1) (hb := hb) (hn := hn) (k := k)
theorem ZoappendZ {t tn e : TypeId} {kn kq : IntKind} {bytes : Nat} {zc : Value} [TSlice P t e] [TInt P tn kn] [TElem P e 1 bytes [zc]] {s x : Operand} {v : Value} {m1 k : Nat} {i : Int} {xs : List Value} (kk : ∀ v', Tri w0 K n ((d, v') :: L) (own e 1 v' (m1 + k) (xs ++ List.replicate k zc) :: H')) (hx : ev L s = some v := by rfl) (hy : ev L x = some (.int kq i) := by rfl) (hi : i = (k : Int) := by omega) (p : Pull H (own e 1 v m1 xs) H' := by exact Wp) (h1 : zc.oneCell' = true := by rfl) (hb : (m1 + k) * bytes ≤ 140737488355328 := by omega) (hn : Nat.blt d n = true := by rfl) : Tri w0 (OpG P ⟨some d, .call { callee := .builtin .append, args := #[s, x], argTypes := #[t, tn] }, ty, pos, aft, g⟩ K Q) n L H := o_appendZ (hx := hx) (hy := hy) (hi := hi) (p := p) (h1 := h1) (hb := hb) (hn := hn) (kk := kk)
theorem Zbu {T : TypeId} {pl : List (Nat × Nat)} {z ys : List Value} {parts : List (Nat × Operand)} {vs : List (Nat × Value)} [ht : TPlaces P T pl] [hz : TZero P T z] (k : Tri w0 K n ((d, .agg ys.toArray) :: L) H) (hp : pev L parts vs := by exact Wpe) (hf : fillL (fun i => pl[i]?) z vs = some ys := by rfl) (hn : Nat.blt d n = true := by rfl) : Tri w0 (OpG P ⟨some d, .build T parts.toArray, ty, pos, aft, g⟩ K Q) n L H := o_build (hp := hp) (hf := hf) (hn := hn) (k := k)
theorem Zbs {s t e : TypeId} {x : Operand} {u : Value} {l : List UInt8} [hs : TSlice P s e] [ht : TStr P t] (k : Tri w0 K n ((d, .string ⟨l.toArray⟩) :: L) H) (he : P.underlying e = some (.int .u8) := by rfl) (hx : ev L x = some u := by rfl) (hr : ∀ w, St w0 w H → RdW w u l.length (l.map fun c => .int .u8 (c.toNat : Int)) := by (first | rfl | assumption)) (hn : Nat.blt d n = true := by rfl) : Tri w0 (OpG P ⟨some d, .convert s t x, ty, pos, aft, g⟩ K Q) n L H := o_bytesStr (he := he) (hx := hx) (hr := hr) (hn := hn) (k := k)
theorem Zcf {f : FuncId} {x : Operand} {args : List Operand} {ts : Array TypeId} {vs cs : List Value} {Pre : List Atom} {R : Value → List Atom → Prop} [TFn P f] (hs : Spec P f (vs ++ cs).toArray Pre R) (k : ∀ v Hq, R v Hq → Tri w0 K n ((d, v) :: L) (Hq ++ H')) (hx : ev L x = some (.func (.func f) #[] cs.toArray) := by rfl) (hargs : evs L args vs := by exact Wev) (p : Pulls H Pre H' := by exact Wps) (hn : Nat.blt d n = true := by rfl) : Tri w0 (OpG P ⟨some d, .call { callee := .value x, args := args.toArray, argTypes := ts }, ty, pos, aft, g⟩ K Q) n L H := o_callF (hx := hx) (hs := hs) (hargs := hargs) (p := p) (hn := hn) (k := k)
theorem Zcr {f : FuncId} {args : List Operand} {ts : Array TypeId} {vs : List Value} {Pre : World → Prop} {R : Value → List Atom → Prop} [TFn P f] (hs : SpecR P f vs.toArray Pre R) (k : ∀ v H', R v H' → Tri w0 K n ((d, v) :: L) (H' ++ H)) (hargs : evs L args vs := by exact Wev) (hpre : ∀ w, St w0 w H → Pre w := by exact fun _ _ => trivial) (hn : Nat.blt d n = true := by rfl) : Tri w0 (OpG P ⟨some d, .call { callee := .value (.func f), args := args.toArray, argTypes := ts }, ty, pos, aft, g⟩ K Q) n L H := o_callR (hs := hs) (hargs := hargs) (hpre := hpre) (hn := hn) (k := k)
theorem Zcs {f : FuncId} {args : List Operand} {ts : Array TypeId} {vs : List Value} {Pre : List Atom} {R : Value → List Atom → Prop} [TFn P f] (hs : Spec P f vs.toArray Pre R) (k : ∀ v Hq, R v Hq → Tri w0 K n ((d, v) :: L) (Hq ++ H')) (hargs : evs L args vs := by exact Wev) (p : Pulls H Pre H' := by exact Wps) (hn : Nat.blt d n = true := by rfl) : Tri w0 (OpG P ⟨some d, .call { callee := .value (.func f), args := args.toArray, argTypes := ts }, ty, pos, aft, g⟩ K Q) n L H := o_callS (hs := hs) (hargs := hargs) (p := p) (hn := hn) (k := k)
theorem Zcv {f : FuncId} {args : List Operand} {ts : Array TypeId} {vs : List Value} {Pre : World → Prop} {v : Value} [TFn P f] (hs : SpecR P f vs.toArray Pre (fun r H' => r = v ∧ H' = [])) (k : Tri w0 K n ((d, v) :: L) H) (hargs : evs L args vs := by exact Wev) (hpre : ∀ w, St w0 w H → Pre w := by exact fun _ _ => trivial) (hn : Nat.blt d n = true := by rfl) : Tri w0 (OpG P ⟨some d, .call { callee := .value (.func f), args := args.toArray, argTypes := ts }, ty, pos, aft, g⟩ K Q) n L H := o_callV (hs := hs) (hargs := hargs) (hpre := hpre) (hn := hn) (k := k)
theorem ZoeqlA {t1 t2 : TypeId} {z : List Value} {x y : Operand} {xs ys : List Value} {r : Bool} [ht : TEq P t1 z] (k : Tri w0 K n ((d, .bool r) :: L) H) (hx : ev L x = some (.agg xs.toArray) := by rfl) (hy : ev L y = some (.agg ys.toArray) := by rfl) (hax : Alk z xs := by rfl) (hay : Alk z ys := by rfl) (hr : r = true ↔ xs = ys := by (first | rfl | assumption)) (hn : Nat.blt d n = true := by rfl) : Tri w0 (OpG P ⟨some d, .binOp .eql t1 x y t2, ty, pos, aft, g⟩ K Q) n L H := o_eqlA (hx := hx) (hy := hy) (hax := hax) (hay := hay) (hr := hr) (hn := hn) (k := k)
theorem ZoeqlSN {t e t2 : TypeId} {x y : Operand} {v : Value} {m : Nat} {xs : List Value} [ht : TSlice P t e] (k : ∀ b : Bool, (b = true → xs = []) → Tri w0 K n ((d, .bool b) :: L) H) (hx : ev L x = some v := by rfl) (hy : ev L y = some (.slice none 0 0) := by rfl) (hr : ∀ w, St w0 w H → RdW w v m xs := by (first | rfl | assumption)) (hn : Nat.blt d n = true := by rfl) : Tri w0 (OpG P ⟨some d, .binOp .eql t x y t2, ty, pos, aft, g⟩ K Q) n L H := o_eqlSN (hx := hx) (hy := hy) (hr := hr) (hn := hn) (k := k)
theorem Zoindex {T e : TypeId} {m : Nat} {x y : Operand} {cs : List Value} {ik : IntKind} {i : Int} {j : Nat} {v : Value} [hT : TArr P T m e 1] [hE : TPlain P e] (k : Tri w0 K n ((d, v) :: L) H) (hx : ev L x = some (.agg cs.toArray) := by rfl) (hy : ev L y = some (.int ik i) := by rfl) (hj : i = (j : Int) := by (first | rfl | exact (Int.toNat_of_nonneg (by omega)).symm)) (hlt : j < m := by (first | omega | assumption)) (hv : cs[j]? = some v := by rfl) (hn : Nat.blt d n = true := by rfl) : Tri w0 (OpG P ⟨some d, .index T x y, ty, pos, aft, g⟩ K Q) n L H := o_index (hx := hx) (hy := hy) (hj := hj) (hlt := hlt) (hv := hv) (hn := hn) (k := k)
theorem Zia {T e : TypeId} {m size : Nat} {x y : Operand} {b o' : Nat} {ik : IntKind} {i : Int} {j : Nat} [hT : TArr P T m e size] (k : Tri w0 K n ((d, .pointer (some ⟨b, o' + j * size, none⟩)) :: L) H) (hx : ev L x = some (.pointer (some ⟨b, o', none⟩)) := by rfl) (hy : ev L y = some (.int ik i) := by rfl) (hj : i = (j : Int) := by (first | rfl | exact (Int.toNat_of_nonneg (by omega)).symm)) (hlt : j < m := by (first | omega | assumption)) (hn : Nat.blt d n = true := by rfl) : Tri w0 (OpG P ⟨some d, .indexAddr T x y, ty, pos, aft, g⟩ K Q) n L H := o_ixArr (hx := hx) (hy := hy) (hj := hj) (hlt := hlt) (hn := hn) (k := k)
theorem Zix {T e e' : TypeId} {size size' : Nat} {x y : Operand} {v : Value} {m : Nat} {xs : List Value} {ik : IntKind} {i : Int} {j : Nat} [hT : TSlice P T e] [hs : TSize P e size] (k : Tri w0 K n ((d, .pointer (some (eaddr v (j * size)))) :: L) H) (hx : ev L x = some v := by rfl) (hy : ev L y = some (.int ik i) := by rfl) (p : Pull H (own e' size' v m xs) H' := by exact Wp) (hj : i = (j : Int) := by (first | rfl | exact (Int.toNat_of_nonneg (by omega)).symm)) (hlt : j < m := by (first | omega | assumption)) (hn : Nat.blt d n = true := by rfl) : Tri w0 (OpG P ⟨some d, .indexAddr T x y, ty, pos, aft, g⟩ K Q) n L H := o_ixOwn (hx := hx) (hy := hy) (p := p) (hj := hj) (hlt := hlt) (hn := hn) (k := k)
theorem Zir {T e : TypeId} {size : Nat} {x y : Operand} {h0 : PH} {v : Value} {m : Nat} {xs : List Value} {ik : IntKind} {i : Int} {j : Nat} [hT : TSlice P T e] [hs : TSize P e size] (k : Tri w0 K n ((d, .pointer (some (eaddr v (j * size)))) :: L) H) (hx : ev L x = some v := by rfl) (hy : ev L y = some (.int ik i) := by rfl) (hr : Rd h0 v m xs := by (first | rfl | assumption)) (hj : i = (j : Int) := by (first | rfl | exact (Int.toNat_of_nonneg (by omega)).symm)) (hlt : j < m := by (first | omega | assumption)) (hl : j * size < xs.length := by (first | rfl | assumption | (simp; omega) | simp)) (hn : Nat.blt d n = true := by rfl) : Tri w0 (OpG P ⟨some d, .indexAddr T x y, ty, pos, aft, g⟩ K Q) n L H := o_ixRd (hx := hx) (hy := hy) (hr := hr) (hj := hj) (hlt := hlt) (hl := hl) (hn := hn) (k := k)
theorem ZoixW {T e : TypeId} {size : Nat} {x y : Operand} {v : Value} {m : Nat} {xs : List Value} {ik : IntKind} {i : Int} {j : Nat} [hT : TSlice P T e] [hs : TSize P e size] (k : Tri w0 K n ((d, .pointer (some (eaddr v (j * size)))) :: L) H) (hx : ev L x = some v := by rfl) (hy : ev L y = some (.int ik i) := by rfl) (hr : ∀ w, St w0 w H → RdW w v m xs := by (first | rfl | assumption)) (hj : i = (j : Int) := by (first | rfl | exact (Int.toNat_of_nonneg (by omega)).symm)) (hlt : j < m := by (first | omega | assumption)) (hl : j * size < xs.length := by (first | rfl | assumption | (simp; omega) | simp)) (hn : Nat.blt d n = true := by rfl) : Tri w0 (OpG P ⟨some d, .indexAddr T x y, ty, pos, aft, g⟩ K Q) n L H := o_ixW (hx := hx) (hy := hy) (hr := hr) (hj := hj) (hlt := hlt) (hl := hl) (hn := hn) (k := k)
theorem Zlr2 {T e : TypeId} {x : Operand} {h0 : PH} {v : Value} {m : Nat} {xs : List Value} [TSlice P T e] (k : Tri w0 K n ((d, .int .i64 (m : Int)) :: L) H) (hx : ev L x = some v := by rfl) (hr : Rd h0 v m xs := by (first | rfl | assumption)) (hn : Nat.blt d n = true := by rfl) : Tri w0 (OpG P ⟨some d, .call { callee := .builtin .len, args := #[x], argTypes := #[T] }, ty, pos, aft, g⟩ K Q) n L H := o_lenRd (hx := hx) (hr := hr) (hn := hn) (k := k)
theorem Zli {t e : TypeId} {size bytes m : Nat} {z ys : List Value} {parts : List (Nat × Operand)} {vs : List (Nat × Value)} [ht : TSlice P t e] [he : TElem P e size bytes z] (k : ∀ v, Tri w0 K n ((d, v) :: L) (own e size v m ys :: H)) (hp : pev L parts vs := by exact Wpe) (hm : Nat.ble (m * size) 16777216 = true := by rfl) (hf : fillL (fun i => some (i * size, size)) (List.replicate m z).flatten vs = some ys := by rfl) (hn : Nat.blt d n = true := by rfl) : Tri w0 (OpG P ⟨some d, .buildSlice t m parts.toArray, ty, pos, aft, g⟩ K Q) n L H := o_litSl (hp := hp) (hm := hm) (hf := hf) (hn := hn) (k := k)
theorem Zl {T T' : TypeId} {x : Operand} {b i : Nat} {cs : List Value} {v : Value} [TPlain P T] (k : Tri w0 K n ((d, v) :: L) H) (hx : ev L x = some (.pointer (some ⟨b, i, none⟩)) := by rfl) (p : Pull H (blk b T' cs) H' := by exact Wp) (hv : cs[i]? = some v := by rfl) (hn : Nat.blt d n = true := by rfl) : Tri w0 (OpG P ⟨some d, .load T x, ty, pos, aft, g⟩ K Q) n L H := o_load (hx := hx) (p := p) (hv := hv) (hn := hn) (k := k)
theorem Zlg {T T' : TypeId} {sz : Nat} {x : Operand} {b i : Nat} {cs ys : List Value} [TAgg P T sz] (k : Tri w0 K n ((d, .agg ys.toArray) :: L) H) (hx : ev L x = some (.pointer (some ⟨b, i, none⟩)) := by rfl) (p : Pull H (blk b T' cs) H' := by exact Wp) (hv : (cs.drop i).take sz = ys := by rfl) (hl : ys.length = sz := by (first | rfl | assumption | (simp; omega) | simp)) (hn : Nat.blt d n = true := by rfl) : Tri w0 (OpG P ⟨some d, .load T x, ty, pos, aft, g⟩ K Q) n L H := o_loadAgg (hx := hx) (p := p) (hv := hv) (hl := hl) (hn := hn) (k := k)
theorem Zlq {T e : TypeId} {sz m i size : Nat} {x : Operand} {u : Value} {xs ys : List Value} [TAgg P T sz] (k : Tri w0 K n ((d, .agg ys.toArray) :: L) H) (hx : ev L x = some (.pointer (some (eaddr u i))) := by rfl) (p : Pull H (own e size u m xs) H' := by exact Wp) (hv : (xs.drop i).take sz = ys := by rfl) (hl : ys.length = sz := by (first | rfl | assumption | (simp; omega) | simp)) (hn : Nat.blt d n = true := by rfl) : Tri w0 (OpG P ⟨some d, .load T x, ty, pos, aft, g⟩ K Q) n L H := o_loadAggOwn (hx := hx) (p := p) (hv := hv) (hl := hl) (hn := hn) (k := k)
theorem Zlh {T : TypeId} {sz : Nat} {x : Operand} {h0 : PH} {u : Value} {m i : Nat} {xs ys : List Value} [TAgg P T sz] (k : Tri w0 K n ((d, .agg ys.toArray) :: L) H) (hx : ev L x = some (.pointer (some (eaddr u i))) := by rfl) (p : Pull H (Ex h0) H' := by exact Wp) (hr : Rd h0 u m xs := by (first | rfl | assumption)) (hv : (xs.drop i).take sz = ys := by rfl) (hl : ys.length = sz := by (first | rfl | assumption | (simp; omega) | simp)) (hn : Nat.blt d n = true := by rfl) : Tri w0 (OpG P ⟨some d, .load T x, ty, pos, aft, g⟩ K Q) n L H := o_loadAggRd (hx := hx) (p := p) (hr := hr) (hv := hv) (hl := hl) (hn := hn) (k := k)
theorem ZoloadAggW {T : TypeId} {sz : Nat} {x : Operand} {u : Value} {m i : Nat} {xs ys : List Value} [TAgg P T sz] (k : Tri w0 K n ((d, .agg ys.toArray) :: L) H) (hx : ev L x = some (.pointer (some (eaddr u i))) := by rfl) (hr : ∀ w, St w0 w H → RdW w u m xs := by (first | rfl | assumption)) (hv : (xs.drop i).take sz = ys := by rfl) (hl : ys.length = sz := by (first | rfl | assumption | (simp; omega) | simp)) (hn : Nat.blt d n = true := by rfl) : Tri w0 (OpG P ⟨some d, .load T x, ty, pos, aft, g⟩ K Q) n L H := o_loadAggW (hx := hx) (hr := hr) (hv := hv) (hl := hl) (hn := hn) (k := k)
theorem Zla {T T' : TypeId} {sz : Nat} {x : Operand} {b : Nat} {cs : List Value} [TAgg P T sz] (k : Tri w0 K n ((d, .agg cs.toArray) :: L) H) (hx : ev L x = some (.pointer (some ⟨b, 0, none⟩)) := by rfl) (p : Pull H (blk b T' cs) H' := by exact Wp) (hl : cs.length = sz := by (first | rfl | assumption | (simp; omega) | simp)) (hn : Nat.blt d n = true := by rfl) : Tri w0 (OpG P ⟨some d, .load T x, ty, pos, aft, g⟩ K Q) n L H := o_loadAll (hx := hx) (p := p) (hl := hl) (hn := hn) (k := k)
theorem Zlo {T e : TypeId} {x : Operand} {u v : Value} {m j size : Nat} {xs : List Value} [TPlain P T] (k : Tri w0 K n ((d, v) :: L) H) (hx : ev L x = some (.pointer (some (eaddr u j))) := by rfl) (p : Pull H (own e size u m xs) H' := by exact Wp) (hv : xs[j]? = some v := by rfl) (hn : Nat.blt d n = true := by rfl) : Tri w0 (OpG P ⟨some d, .load T x, ty, pos, aft, g⟩ K Q) n L H := o_loadOwn (hx := hx) (p := p) (hv := hv) (hn := hn) (k := k)
theorem Zlr {T : TypeId} {x : Operand} {h0 : PH} {u v : Value} {m j : Nat} {xs : List Value} [TPlain P T] (k : Tri w0 K n ((d, v) :: L) H) (hx : ev L x = some (.pointer (some (eaddr u j))) := by rfl) (p : Pull H (Ex h0) H' := by exact Wp) (hr : Rd h0 u m xs := by (first | rfl | assumption)) (hv : xs[j]? = some v := by rfl) (hn : Nat.blt d n = true := by rfl) : Tri w0 (OpG P ⟨some d, .load T x, ty, pos, aft, g⟩ K Q) n L H := o_loadRd (hx := hx) (p := p) (hr := hr) (hv := hv) (hn := hn) (k := k)
theorem ZoloadW {T : TypeId} {x : Operand} {u v : Value} {m j : Nat} {xs : List Value} [TPlain P T] (k : Tri w0 K n ((d, v) :: L) H) (hx : ev L x = some (.pointer (some (eaddr u j))) := by rfl) (hr : ∀ w, St w0 w H → RdW w u m xs := by (first | rfl | assumption)) (hv : xs[j]? = some v := by rfl) (hn : Nat.blt d n = true := by rfl) : Tri w0 (OpG P ⟨some d, .load T x, ty, pos, aft, g⟩ K Q) n L H := o_loadW (hx := hx) (hr := hr) (hv := hv) (hn := hn) (k := k)
theorem Zomake1 {t e : TypeId} {bytes : Nat} {zc : Value} {x y : Operand} {ik jk : IntKind} {i j : Int} {m : Nat} [ht : TSlice P t e] [he : TElem P e 1 bytes [zc]] (k : ∀ b, Tri w0 K n ((d, .slice (some ⟨b, 0, none⟩) m m) :: L) (blk b e (List.replicate m zc) :: H)) (hx : ev L x = some (.int ik i) := by rfl) (hy : ev L y = some (.int jk j) := by rfl) (hi : i = (m : Int) := by omega) (hj : j = (m : Int) := by (first | rfl | exact (Int.toNat_of_nonneg (by omega)).symm)) (hb : m * bytes ≤ 140737488355328 := by omega) (hn : Nat.blt d n = true := by rfl) : Tri w0 (OpG P ⟨some d, .makeSlice t x y, ty, pos, aft, g⟩ K Q) n L H := o_make1 (hx := hx) (hy := hy) (hi := hi) (hj := hj) (hb := hb) (hn := hn) (k := k)
theorem ZomakeFunc {f : FuncId} {cap : List Operand} {vs : List Value} (k : Tri w0 K n ((d, .func (.func f) #[] vs.toArray) :: L) H) (hc : evs L cap vs := by rfl) (hn : Nat.blt d n = true := by rfl) : Tri w0 (OpG P ⟨some d, .makeFunc (.func f) #[] cap.toArray, ty, pos, aft, g⟩ K Q) n L H := o_makeFunc (hc := hc) (hn := hn) (k := k)
theorem ZoneqA {t1 t2 : TypeId} {z : List Value} {x y : Operand} {xs ys : List Value} {r : Bool} [ht : TEq P t1 z] (k : Tri w0 K n ((d, .bool (!r)) :: L) H) (hx : ev L x = some (.agg xs.toArray) := by rfl) (hy : ev L y = some (.agg ys.toArray) := by rfl) (hax : Alk z xs := by rfl) (hay : Alk z ys := by rfl) (hr : r = true ↔ xs = ys := by (first | rfl | assumption)) (hn : Nat.blt d n = true := by rfl) : Tri w0 (OpG P ⟨some d, .binOp .neq t1 x y t2, ty, pos, aft, g⟩ K Q) n L H := o_neqA (hx := hx) (hy := hy) (hax := hax) (hay := hay) (hr := hr) (hn := hn) (k := k)
theorem Zsl {T e : TypeId} {size : Nat} {x : Operand} {ol oh : Option Operand} {v : Value} {m lo hi : Nat} {xs : List Value} {vl vh : Option Value} [hT : TSlice P T e] [hs : TSize P e size] (k : Tri w0 K n ((d, subv v size lo hi) :: L) H) (hx : ev L x = some v := by rfl) (hr : ∀ w, St w0 w H → RdW w v m xs := by (first | rfl | assumption)) (hol : ∀ a, Has a n L → ol.map a.eval = vl := by (first | exact fun _ _ => rfl | exact fun a ha => congrArg some (ha.eval rfl))) (hoh : ∀ a, Has a n L → oh.map a.eval = vh := by (first | exact fun _ _ => rfl | exact fun a ha => congrArg some (ha.eval rfl))) (hlo : (∃ ik, vl = some (.int ik (lo : Int))) ∨ vl = none ∧ lo = 0 := by (first | exact .inr ⟨rfl, rfl⟩ | exact .inl ⟨_, rfl⟩ | exact .inl ⟨_, (by congr 2; omega)⟩)) (hhi : (∃ jk, vh = some (.int jk (hi : Int))) ∨ vh = none ∧ hi = m := by (first | exact .inr ⟨rfl, rfl⟩ | exact .inl ⟨_, rfl⟩ | exact .inl ⟨_, (by congr 2; omega)⟩)) (hlh : lo ≤ hi := by omega) (hhm : hi ≤ m := by omega) (hn : Nat.blt d n = true := by rfl) : Tri w0 (OpG P ⟨some d, .slice T x ol oh none, ty, pos, aft, g⟩ K Q) n L H := o_slice (hx := hx) (hr := hr) (hol := hol) (hoh := hoh) (hlo := hlo) (hhi := hhi) (hlh := hlh) (hhm := hhm) (hn := hn) (k := k)
theorem Zoslice3 {T e : TypeId} {size : Nat} {x y z : Operand} {ol : Option Operand} {A : Option Addr} {m c lo hi mx : Nat} {vl : Option Value} {jk kk : IntKind} [hT : TSlice P T e] [hs : TSize P e size] (k : Tri w0 K n ((d, .slice (if mx = lo then A else A.map (·.add (lo * size))) (hi - lo) (mx - lo)) :: L) H) (hx : ev L x = some (.slice A m c) := by rfl) (hol : ∀ a, Has a n L → ol.map a.eval = vl := by (first | exact fun _ _ => rfl | exact fun a ha => congrArg some (ha.eval rfl))) (hlo : (∃ ik, vl = some (.int ik (lo : Int))) ∨ vl = none ∧ lo = 0 := by (first | exact .inr ⟨rfl, rfl⟩ | exact .inl ⟨_, rfl⟩ | exact .inl ⟨_, (by congr 2; omega)⟩)) (hy : ev L y = some (.int jk (hi : Int)) := by rfl) (hz : ev L z = some (.int kk (mx : Int)) := by rfl) (hlh : lo ≤ hi := by omega) (hhm : hi ≤ mx := by omega) (hmc : mx ≤ c := by omega) (hn : Nat.blt d n = true := by rfl) : Tri w0 (OpG P ⟨some d, .slice T x ol (some y) (some z), ty, pos, aft, g⟩ K Q) n L H := o_slice3 (hx := hx) (hol := hol) (hlo := hlo) (hy := hy) (hz := hz) (hlh := hlh) (hhm := hhm) (hmc := hmc) (hn := hn) (k := k)
theorem ZosliceB {T e : TypeId} {size : Nat} {x : Operand} {ol oh : Option Operand} {b o' m c lo hi : Nat} {vl vh : Option Value} [hT : TSlice P T e] [hs : TSize P e size] (k : Tri w0 K n ((d, .slice (some ⟨b, o' + lo * size, none⟩) (hi - lo) (c - lo)) :: L) H) (hx : ev L x = some (.slice (some ⟨b, o', none⟩) m c) := by rfl) (hol : ∀ a, Has a n L → ol.map a.eval = vl := by (first | exact fun _ _ => rfl | exact fun a ha => congrArg some (ha.eval rfl))) (hoh : ∀ a, Has a n L → oh.map a.eval = vh := by (first | exact fun _ _ => rfl | exact fun a ha => congrArg some (ha.eval rfl))) (hlo : (∃ ik, vl = some (.int ik (lo : Int))) ∨ vl = none ∧ lo = 0 := by (first | exact .inr ⟨rfl, rfl⟩ | exact .inl ⟨_, rfl⟩ | exact .inl ⟨_, (by congr 2; omega)⟩)) (hhi : (∃ jk, vh = some (.int jk (hi : Int))) ∨ vh = none ∧ hi = m := by (first | exact .inr ⟨rfl, rfl⟩ | exact .inl ⟨_, rfl⟩ | exact .inl ⟨_, (by congr 2; omega)⟩)) (hlh : lo ≤ hi := by omega) (hhm : hi ≤ c := by omega) (hne : lo < c := by rfl) (hn : Nat.blt d n = true := by rfl) : Tri w0 (OpG P ⟨some d, .slice T x ol oh none, ty, pos, aft, g⟩ K Q) n L H := o_sliceB (hx := hx) (hol := hol) (hoh := hoh) (hlo := hlo) (hhi := hhi) (hlh := hlh) (hhm := hhm) (hne := hne) (hn := hn) (k := k)
theorem ZosliceH {T e : TypeId} {size : Nat} {x : Operand} {ol oh : Option Operand} {A : Option Addr} {m c lo hi : Nat} {vl vh : Option Value} [hT : TSlice P T e] [hs : TSize P e size] (k : Tri w0 K n ((d, .slice (if c = lo then A else A.map (·.add (lo * size))) (hi - lo) (c - lo)) :: L) H) (hx : ev L x = some (.slice A m c) := by rfl) (hol : ∀ a, Has a n L → ol.map a.eval = vl := by (first | exact fun _ _ => rfl | exact fun a ha => congrArg some (ha.eval rfl))) (hoh : ∀ a, Has a n L → oh.map a.eval = vh := by (first | exact fun _ _ => rfl | exact fun a ha => congrArg some (ha.eval rfl))) (hlo : (∃ ik, vl = some (.int ik (lo : Int))) ∨ vl = none ∧ lo = 0 := by (first | exact .inr ⟨rfl, rfl⟩ | exact .inl ⟨_, rfl⟩ | exact .inl ⟨_, (by congr 2; omega)⟩)) (hhi : (∃ jk, vh = some (.int jk (hi : Int))) ∨ vh = none ∧ hi = m := by (first | exact .inr ⟨rfl, rfl⟩ | exact .inl ⟨_, rfl⟩ | exact .inl ⟨_, (by congr 2; omega)⟩)) (hlh : lo ≤ hi := by omega) (hhm : hi ≤ c := by omega) (hn : Nat.blt d n = true := by rfl) : Tri w0 (OpG P ⟨some d, .slice T x ol oh none, ty, pos, aft, g⟩ K Q) n L H := o_sliceH (hx := hx) (hol := hol) (hoh := hoh) (hlo := hlo) (hhi := hhi) (hlh := hlh) (hhm := hhm) (hn := hn) (k := k)
theorem ZS {T T' : TypeId} {x y : Operand} {b i : Nat} {cs : List Value} {v : Value} [_hT : TPlain P T] [hz : TSize P T 1] (k : Tri w0 K n L (blk b T' (cs.set i v) :: H')) (hx : ev L x = some (.pointer (some ⟨b, i, none⟩)) := by rfl) (hy : ev L y = some v := by rfl) (h1 : v.oneCell' = true := by rfl) (p : Pull H (blk b T' cs) H' := by exact Wp) (hi : i < cs.length := by (exact Nat.le_of_ble_eq_true rfl)) : Tri w0 (OpG P ⟨none, .store T x y, ty, pos, aft, g⟩ K Q) n L H := o_store (hx := hx) (hy := hy) (h1 := h1) (p := p) (hi := hi) (k := k)
theorem ZSg {T T' : TypeId} {sz : Nat} {x y : Operand} {b i : Nat} {cs ys : List Value} [hT : TAgg P T sz] (k : Tri w0 K n L (blk b T' (cs.take i ++ ys ++ cs.drop (i + sz)) :: H')) (hx : ev L x = some (.pointer (some ⟨b, i, none⟩)) := by rfl) (hy : ev L y = some (.agg ys.toArray) := by rfl) (hl : ys.length = sz := by rfl) (h1 : ∀ v ∈ ys, v.oneCell' = true := by rfl) (p : Pull H (blk b T' cs) H' := by exact Wp) (hi : i + sz ≤ cs.length := by omega) : Tri w0 (OpG P ⟨none, .store T x y, ty, pos, aft, g⟩ K Q) n L H := o_storeAgg (hx := hx) (hy := hy) (hl := hl) (h1 := h1) (p := p) (hi := hi) (k := k)
theorem ZSa {T T' : TypeId} {sz : Nat} {x y : Operand} {b : Nat} {cs ys : List Value} [TAgg P T sz] (k : Tri w0 K n L (blk b T' ys :: H')) (hx : ev L x = some (.pointer (some ⟨b, 0, none⟩)) := by rfl) (hy : ev L y = some (.agg ys.toArray) := by rfl) (p : Pull H (blk b T' cs) H' := by exact Wp) (hl : ys.length = sz := by rfl) (hc : cs.length = sz := by rfl) (h1 : ∀ v ∈ ys, v.oneCell' = true := by rfl) : Tri w0 (OpG P ⟨none, .store T x y, ty, pos, aft, g⟩ K Q) n L H := o_storeAll (hx := hx) (hy := hy) (p := p) (hl := hl) (hc := hc) (h1 := h1) (k := k)
theorem Tri.isOp (h : Tri w0 (OpG P o K Q) n L H) : Tri w0 (OpG P o K Q) n L H := h
theorem Tri.isBin {dd : Option Nat} {b : BinOp} {t1 t2 : TypeId} {x y : Operand} (h : Tri w0 (OpG P ⟨dd, .binOp b t1 x y t2, ty, pos, aft, g⟩ K Q) n L H) : Tri w0 (OpG P ⟨dd, .binOp b t1 x y t2, ty, pos, aft, g⟩ K Q) n L H := h
theorem Wop {X G : Prop} (k : X) (h : (True → X) → G := by intro kW; ((with_reducible refine Tri.isOp ?_); first | ((with_reducible refine Tri.isBin ?_); first | ((with_reducible apply o_add64); (case hx => rfl); (case hy => rfl); (case hn => rfl); (case hb => omega)) | ((with_reducible apply o_add); (case hx => rfl); (case hy => rfl); (case hn => rfl)) | ((with_reducible apply o_sub64); (case hx => rfl); (case hy => rfl); (case hn => rfl); (case hb => omega)) | ((with_reducible apply o_sub); (case hx => rfl); (case hy => rfl); (case hn => rfl)) | ((with_reducible apply o_mul64); (case hx => rfl); (case hy => rfl); (case hn => rfl); (case hb => omega)) | ((with_reducible apply o_mul); (case hx => rfl); (case hy => rfl); (case hn => rfl)) | ((with_reducible apply o_lss); (case hx => rfl); (case hy => rfl); (case hn => rfl)) | ((with_reducible apply o_leq); (case hx => rfl); (case hy => rfl); (case hn => rfl)) | ((with_reducible apply o_gtr); (case hx => rfl); (case hy => rfl); (case hn => rfl)) | ((with_reducible apply o_geq); (case hx => rfl); (case hy => rfl); (case hn => rfl)) | ((with_reducible apply o_eql); (case hx => rfl); (case hy => rfl); (case hn => rfl)) | ((with_reducible apply o_neq); (case hx => rfl); (case hy => rfl); (case hn => rfl)) | ((with_reducible apply o_rem); (case hx => rfl); (case hy => rfl); (case hn => rfl); (case hi => omega); (case hj => omega)) | ((with_reducible apply o_remT); (case hx => rfl); (case hy => rfl); (case hn => rfl); (case hj => omega)) | ((with_reducible apply o_quo); (case hx => rfl); (case hy => rfl); (case hn => rfl); (case hi => omega); (case hj => omega)) | ((with_reducible apply o_shr); (case hx => rfl); (case hy => rfl); (case hn => rfl); (case hj => omega)) | ((with_reducible apply o_shl); (case hx => rfl); (case hy => rfl); (case hn => rfl); (case hj => omega)) | ((with_reducible apply o_and); (case hx => rfl); (case hy => rfl); (case hn => rfl)) | ((with_reducible apply o_or); (case hx => rfl); (case hy => rfl); (case hn => rfl)) | ((with_reducible apply o_xor); (case hx => rfl); (case hy => rfl); (case hn => rfl)) | ((with_reducible apply o_eqlB); (case hx => rfl); (case hy => rfl); (case hn => rfl)) | ((with_reducible apply o_neqB); (case hx => rfl); (case hy => rfl); (case hn => rfl)) | ((with_reducible apply o_eqlN); (case hx => rfl); (case hy => rfl); (case hn => rfl)) | ((with_reducible apply o_neqN); (case hx => rfl); (case hy => rfl); (case hn => rfl)) | ((with_reducible apply o_eqlS); (case hx => rfl); (case hy => rfl); (case hn => rfl)) | ((with_reducible apply o_neqS); (case hx => rfl); (case hy => rfl); (case hn => rfl))) | (first | ((with_reducible apply o_move); (case hx => rfl); (case hn => rfl)) | ((with_reducible apply o_assign); (case hx => rfl); (case hn => rfl)) | ((with_reducible apply o_pickT); (case hc => rfl); (case hb => with_reducible rfl); (case hx => rfl); (case hn => rfl)) | ((with_reducible apply o_pickF); (case hc => rfl); (case hb => with_reducible rfl); (case hy => rfl); (case hn => rfl)) | ((with_reducible apply o_notD); (case hx => rfl); (case hn => rfl)) | ((with_reducible apply o_not); (case hx => rfl); (case hn => rfl)) | ((with_reducible apply o_neg); (case hx => rfl); (case hn => rfl)) | ((with_reducible apply o_com); (case hx => rfl); (case hn => rfl)) | ((with_reducible apply o_convI); (case hx => rfl); (case hn => rfl); (case hw => first | decide | (exact wrap_i64 (by omega)) | (exact wrap_u8 (by omega)) | (exact wrap_u16 (by omega)) | (exact wrap_u32 (by omega)) | (exact wrap_u64 (by omega)))) | ((with_reducible apply o_conv8); (case hx => rfl); (case hn => rfl)) | ((with_reducible apply o_conv32); (case hx => rfl); (case hn => rfl)) | ((with_reducible apply o_conv64); (case hx => rfl); (case hn => rfl)) | ((with_reducible apply o_conv); (case hx => rfl); (case hn => rfl)) | ((with_reducible apply o_extract); (case hx => rfl); (case hv => rfl); (case hn => rfl)) | ((with_reducible apply o_nilCheck); (case hx => rfl); (case hn => rfl)) | ((with_reducible apply o_fieldAddr); (case hx => rfl); (case hn => rfl)) | ((with_reducible apply o_fieldE); (case hx => rfl); (case hn => rfl)) | ((with_reducible apply o_load); (case hx => rfl); (case p => exact Wp); (case hv => rfl); (case hn => rfl)) | ((with_reducible apply o_len); (case hx => rfl); (case hn => rfl)) | ((with_reducible apply o_lenOwn); (case hx => rfl); (case p => exact Wp); (case hn => rfl)) | ((with_reducible apply o_ixArr); (case hx => rfl); (case hy => rfl); (case hj => first | rfl | exact (Int.toNat_of_nonneg (by omega)).symm); (case hlt => first | omega | assumption); (case hn => rfl)) | ((with_reducible apply o_ixSl); (case hx => rfl); (case hy => rfl); (case hj => first | rfl | exact (Int.toNat_of_nonneg (by omega)).symm); (case hlt => first | omega | assumption); (case hn => rfl)) | ((with_reducible apply o_min); (case hx => rfl); (case hy => rfl); (case hn => rfl)) | ((with_reducible apply o_max); (case hx => rfl); (case hy => rfl); (case hn => rfl)) | ((with_reducible apply o_build0); (case hn => rfl)) | ((with_reducible apply o_index); (case hx => rfl); (case hy => rfl); (case hj => first | rfl | exact (Int.toNat_of_nonneg (by omega)).symm); (case hlt => first | omega | assumption); (case hv => rfl); (case hn => rfl)) | ((with_reducible apply o_ixArr (j := 0)); (case hx => rfl); (case hy => rfl); (case hj => rfl); (case hlt => first | omega | assumption); (case hn => rfl)) | ((with_reducible apply o_ixArr (j := 1)); (case hx => rfl); (case hy => rfl); (case hj => rfl); (case hlt => first | omega | assumption); (case hn => rfl)) | ((with_reducible apply o_ixArr (j := 2)); (case hx => rfl); (case hy => rfl); (case hj => rfl); (case hlt => first | omega | assumption); (case hn => rfl)) | ((with_reducible apply o_ixArr (j := 3)); (case hx => rfl); (case hy => rfl); (case hj => rfl); (case hlt => first | omega | assumption); (case hn => rfl)))); exact kW trivial) : G := h fun _ => k
theorem Wct {X G : Prop} (k : X) (h : (True → X) → G := by intro kW; (first | (with_reducible refine Tri.region ?_) | (with_reducible refine Tri.nil ?_) | ((with_reducible apply Tri.op); (case hg => rfl)) | (with_reducible refine Tri.thenN ?_) | (with_reducible refine Tri.blockN ?_) | (with_reducible refine Tri.thenR ?_) | (with_reducible refine Tri.blockR ?_) | (with_reducible refine Tri.thenE ?_) | (with_reducible refine Tri.blockE ?_) | ((with_reducible apply Tri.blockE'); (case hne => rfl)) | (with_reducible refine Tri.skip ?_) | (with_reducible refine Tri.exit ?_) | (with_reducible refine Tri.ret ?_) | ((with_reducible apply Tri.condT); (case hc => rfl); (case hb => with_reducible rfl)) | ((with_reducible apply Tri.condF); (case hc => rfl); (case hb => with_reducible rfl)) | ((with_reducible apply Tri.opYes); (case hg => rfl); (case hy => rfl); (case hb => with_reducible rfl)) | ((with_reducible apply Tri.opNo (c := true)); (case hg => rfl); (case hd => rfl); (case hn => rfl); (case hy => rfl); (case hb => with_reducible rfl); (case hc => rfl)) | ((with_reducible apply Tri.opNo (c := false)); (case hg => rfl); (case hd => rfl); (case hn => rfl); (case hy => rfl); (case hb => with_reducible rfl); (case hc => rfl)) | ((with_reducible apply Tri.opNoU); (case hg => rfl); (case hyu => rfl); (case hd => rfl); (case hn => rfl)) | (with_reducible refine TriR.region ?_) | (with_reducible refine TriR.nil ?_) | (with_reducible refine TriR.skip ?_) | (with_reducible refine TriR.exit ?_) | (with_reducible refine TriR.ret ?_) | ((with_reducible apply TriR.op); (case hg => rfl); (case hnd => rfl)) | ((with_reducible apply TriR.condT); (case hc => rfl); (case hb => with_reducible rfl)) | ((with_reducible apply TriR.condF); (case hc => rfl); (case hb => with_reducible rfl)) | ((with_reducible apply TriR.opYes); (case hg => rfl); (case hy => rfl); (case hb => with_reducible rfl); (case hnd => rfl)) | ((with_reducible apply TriR.opNo (c := true)); (case hg => rfl); (case hd => rfl); (case hn => rfl); (case hy => rfl); (case hb => with_reducible rfl); (case hc => rfl)) | ((with_reducible apply TriR.opNo (c := false)); (case hg => rfl); (case hd => rfl); (case hn => rfl); (case hy => rfl); (case hb => with_reducible rfl); (case hc => rfl)) | ((with_reducible apply TriR.opNoU); (case hg => rfl); (case hyu => rfl); (case hd => rfl); (case hn => rfl))); exact kW trivial) : G := h fun _ => k
theorem Ws {X G : Prop} (k : X) (h : (True → X) → G := by intro kW; (repeat (first | (refine Wop ?_) | (refine Wct ?_) | (with_reducible refine Tri.seq ?_) | (with_reducible refine Tri.block ?_) | (with_reducible refine TriR.seq ?_) | (with_reducible refine TriR.block ?_))); exact kW trivial) : G := h fun _ => k
theorem Wr {X G : Prop} (k : X) (h : (True → X) → G := by intro kW; (repeat (first | (refine Wop ?_) | ((with_reducible apply o_store); (case hx => rfl); (case hy => rfl); (case h1 => rfl); (case p => exact Wp); (case hi => (exact Nat.le_of_ble_eq_true rfl))) | (refine Wct ?_) | (with_reducible refine Tri.seq ?_) | (with_reducible refine Tri.block ?_) | (with_reducible refine TriR.seq ?_) | (with_reducible refine TriR.block ?_))); exact kW trivial) : G := h fun _ => k
theorem Wo {X G : Prop} (k : X) (h : (True → X) → G := by intro kW; (repeat (first | (refine Wop ?_) | (refine Wct ?_))); exact kW trivial) : G := h fun _ => k
theorem Wqs {X G : Prop} (k : X) (h : (True → X) → G := by intro kW; (repeat (first | (with_reducible refine TriQ.nil ?_) | ((first | ((with_reducible apply TriQ.op); (case hg => rfl)) | ((with_reducible apply TriQ.opYes); (case hg => rfl); (case hy => rfl); (case hb => with_reducible rfl))); (case hd => rfl); (case hn => rfl); (case h => (intro K hK; (refine Wop ?_); exact hK))) | ((with_reducible apply TriQ.opNo (c := true)); (case hg => rfl); (case hy => rfl); (case hb => with_reducible rfl); (case hc => rfl); (case hd => rfl); (case hn => rfl)) | ((with_reducible apply TriQ.opNo (c := false)); (case hg => rfl); (case hy => rfl); (case hb => with_reducible rfl); (case hc => rfl); (case hd => rfl); (case hn => rfl)) | ((with_reducible apply TriQ.opNoU); (case hg => rfl); (case hyu => rfl); (case hd => rfl); (case hn => rfl)))); exact kW trivial) : G := h fun _ => k
theorem Wap {X G : Prop} (k : X) (h : (True → X) → G := by intro kW; (try dsimp only [cA, nA]); exact kW trivial) : G := h fun _ => k
def Qs (is : List Nat) (X G : Prop) : Prop := (True → X) → G
theorem Qs.nil {X : Prop} : Qs [] X X := fun k => k trivial
section
variable {ops : Array Oper} {Hs F : List Atom} {m : Nat} {ls : Array Bool} {i : Nat} {is : List Nat} {X : Prop} {v : Value} {j : Nat} {b b' c : Bool}
theorem Qs.q (ho : ops.toList[i]? = some o) (hg : o.guard = none) (hB : takeB ops ls i = true) (hd : o.dst = some d) (hn : Nat.blt d n = true) (h : ∀ (F : List Atom) (K : Act → World → Prop), Tri w0 K n ((d, v) :: L) (Hs ++ F) → Tri w0 (OpG P o K (fun _ _ _ => False)) n L (Hs ++ F)) (k : Qs is X (TriM P w0 ops Q Hs m (ls.setIfInBounds i true) n ((d, v) :: L) F)) : Qs (i :: is) X (TriM P w0 ops Q Hs (m + 1) ls n L F) := fun x => TriM.q i ho hg hB hd hn h (k x)
theorem Qs.y (ho : ops.toList[i]? = some o) (hg : o.guard = some (j, b)) (hyl : yl L ops j = some b') (hb : b' = b) (hB : takeB ops ls i = true) (hd : o.dst = some d) (hn : Nat.blt d n = true) (h : ∀ (F : List Atom) (K : Act → World → Prop), Tri w0 K n ((d, v) :: L) (Hs ++ F) → Tri w0 (OpG P o K (fun _ _ _ => False)) n L (Hs ++ F)) (k : Qs is X (TriM P w0 ops Q Hs m (ls.setIfInBounds i true) n ((d, v) :: L) F)) : Qs (i :: is) X (TriM P w0 ops Q Hs (m + 1) ls n L F) := fun x => TriM.qYes i ho hg hyl hb hB hd hn h (k x)
theorem Qs.no (ho : ops.toList[i]? = some o) (hg : o.guard = some (j, b)) (hyl : yl L ops j = some b') (hb : b' = c) (hc : (c != b) = true) (hB : takeB ops ls i = true) (hd : o.dst = some d) (hn : Nat.blt d n = true) (k : Qs is X (TriM P w0 ops Q Hs m (ls.setIfInBounds i true) n ((d, undef) :: L) F)) : Qs (i :: is) X (TriM P w0 ops Q Hs (m + 1) ls n L F) := fun x => TriM.qNo (c := c) i ho hg hyl hb hc hB hd hn (k x)
theorem Qs.u (ho : ops.toList[i]? = some o) (hg : o.guard = some (j, b)) (hyu : yu L ops j = true) (hB : takeB ops ls i = true) (hd : o.dst = some d) (hn : Nat.blt d n = true) (k : Qs is X (TriM P w0 ops Q Hs m (ls.setIfInBounds i true) n ((d, undef) :: L) F)) : Qs (i :: is) X (TriM P w0 ops Q Hs (m + 1) ls n L F) := fun x => TriM.qNoU i ho hg hyu hB hd hn (k x)
theorem Wq (is : List Nat) {X G : Prop} (k : X) (h : Qs is X G := by (repeat (first | ((first | ((with_reducible apply Qs.q); (case ho => rfl); (case hg => rfl)) | ((with_reducible apply Qs.y); (case ho => rfl); (case hg => rfl); (case hyl => rfl); (case hb => with_reducible rfl))); (case hB => kernel_rfl); (case hd => rfl); (case hn => rfl); (case h => (intro F K hK; (try dsimp only [cA, nA]); (refine Wop ?_); exact hK))) | ((with_reducible apply Qs.no (c := true)); (case ho => rfl); (case hg => rfl); (case hyl => rfl); (case hb => with_reducible rfl); (case hc => rfl); (case hB => kernel_rfl); (case hd => rfl); (case hn => rfl)) | ((with_reducible apply Qs.no (c := false)); (case ho => rfl); (case hg => rfl); (case hyl => rfl); (case hb => with_reducible rfl); (case hc => rfl); (case hB => kernel_rfl); (case hd => rfl); (case hn => rfl)) | ((with_reducible apply Qs.u); (case ho => rfl); (case hg => rfl); (case hyu => rfl); (case hB => kernel_rfl); (case hd => rfl); (case hn => rfl)))); exact Qs.nil) : G := h fun _ => k
variable {s : Nat} {Hk : List Atom}
theorem Qn.q (ho : ops.toList[i]? = some o) (hg : o.guard = none) (hB : takeN ops ls s i = true) (hd : o.dst = some d) (hn : Nat.blt d n = true) (h : ∀ (F : List Atom) (K : Act → World → Prop), Tri w0 K n ((d, v) :: L) (Hs ++ F) → Tri w0 (OpG P o K (fun _ _ _ => False)) n L (Hs ++ F)) (k : Qs is X (TriN P w0 ops Q s Hk Hs m (ls.setIfInBounds i true) n ((d, v) :: L) F)) : Qs (i :: is) X (TriN P w0 ops Q s Hk Hs (m + 1) ls n L F) := fun x => TriN.q i ho hg hB hd hn h (k x)
theorem Qn.p (ho : ops.toList[i]? = some o) (hg : o.guard = none) (hB : Gv.takeP ops ls s i = true) (hd : o.dst = some d) (hn : Nat.blt d n = true) (h : ∀ (F : List Atom) (K : Act → World → Prop), Tri w0 K n ((d, v) :: L) (Hk ++ F) → Tri w0 (OpG P o K (fun _ _ _ => False)) n L (Hk ++ F)) (k : Qs is X (TriN P w0 ops Q s Hk Hs m (ls.setIfInBounds i true) n ((d, v) :: L) F)) : Qs (i :: is) X (TriN P w0 ops Q s Hk Hs (m + 1) ls n L F) := fun x => TriN.p i ho hg hB hd hn h (k x)
theorem Wnq (is : List Nat) {X G : Prop} (k : X) (h : Qs is X G := by (repeat ((with_reducible apply Qn.q); (case ho => rfl); (case hg => rfl); (case hB => kernel_rfl); (case hd => rfl); (case hn => rfl); (case h => (intro F K hK; (try dsimp only [cA, nA]); (refine Wop ?_); exact hK)))); exact Qs.nil) : G := h fun _ => k
theorem Wnp (is : List Nat) {X G : Prop} (k : X) (h : Qs is X G := by (repeat ((with_reducible apply Qn.p); (case ho => rfl); (case hg => rfl); (case hB => kernel_rfl); (case hd => rfl); (case hn => rfl); (case h => (intro F K hK; (try dsimp only [cA, nA]); (refine Wop ?_); exact hK)))); exact Qs.nil) : G := h fun _ => k
theorem Zm (i : Nat) (ho : ops.toList[i]? = some o := by rfl) (hg : (match o.guard with | none => true | some (j, b) => (match yl L ops j with | some b' => b' == b | none => false)) = true := by rfl) (hB : takeB ops ls i = true := by kernel_rfl) (hd : o.dst = some d := by rfl) (hn : Nat.blt d n = true := by rfl) (h : ∀ (F : List Atom) (K : Act → World → Prop), Tri w0 K n ((d, v) :: L) (Hs ++ F) → Tri w0 (OpG P o K (fun _ _ _ => False)) n L (Hs ++ F)) (k : TriM P w0 ops Q Hs m (ls.setIfInBounds i true) n ((d, v) :: L) F) : TriM P w0 ops Q Hs (m + 1) ls n L F := by
  cases hgu : o.guard with
  | none => exact TriM.q i ho hgu hB hd hn h k
  | some jb =>
    obtain ⟨j, b⟩ := jb
    cases hy : yl L ops j with
    | none => rw [hgu] at hg; simp [hy] at hg
    | some b' =>
      rw [hgu] at hg
      simp [hy] at hg
      exact TriM.qYes i ho hgu hy hg hB hd hn h k
theorem Zn (i : Nat) (ho : ops.toList[i]? = some o := by rfl) (hg : o.guard = none := by rfl) (hB : takeN ops ls s i = true := by kernel_rfl) (hd : o.dst = some d := by rfl) (hn : Nat.blt d n = true := by rfl) (h : ∀ (F : List Atom) (K : Act → World → Prop), Tri w0 K n ((d, v) :: L) (Hs ++ F) → Tri w0 (OpG P o K (fun _ _ _ => False)) n L (Hs ++ F)) (k : TriN P w0 ops Q s Hk Hs m (ls.setIfInBounds i true) n ((d, v) :: L) F) : TriN P w0 ops Q s Hk Hs (m + 1) ls n L F := TriN.q i ho hg hB hd hn h k
variable {HK : List Atom}
theorem Wal {α : Type} {a b c : List α} (h : a ++ b = c := by first | (dsimp only [cA, nA] <;> exact rfl) | exact rfl) : a ++ b = c := h
theorem ZA (i : Nat) (h : Tri w0 (OpG P o (MixK P w0 ops Q Hs m (ls.setIfInBounds i true)) (fun _ _ _ => False)) n L HK) (ho : ops.toList[i]? = some o := by rfl) (hg : o.guard = none := by rfl) (hr : Nat.beq (Region.ready .any ops ls).length 1 && (Region.ready .any ops ls).contains i = true := by kernel_rfl) (hH : Hs ++ F = HK := by exact Wal) : TriM P w0 ops Q Hs (m + 1) ls n L F := TriM.a (i := i) (ho := ho) (hg := hg) (hr := hr) (h := by rw [hH]; exact h)
theorem ZAy (i : Nat) (h : Tri w0 (OpG P o (MixK P w0 ops Q Hs m (ls.setIfInBounds i true)) (fun _ _ _ => False)) n L HK) (ho : ops.toList[i]? = some o := by rfl) (hg : o.guard = some (j, b) := by rfl) (hyl : yl L ops j = some b' := by rfl) (hb : b' = b := by with_reducible rfl) (hr : decide (Region.ready .any ops ls = [i]) = true := by kernel_rfl) (hH : Hs ++ F = HK := by exact Wal) : TriM P w0 ops Q Hs (m + 1) ls n L F := TriM.aY (i := i) (ho := ho) (hg := hg) (hyl := hyl) (hb := hb) (hr := hr) (h := by rw [hH]; exact h)
theorem ZA2 (i j : Nat) {oi oj : Oper} (hi : Tri w0 (OpG P oi (MixK P w0 ops Q Hs m (ls.setIfInBounds i true)) (fun _ _ _ => False)) n L HK) (hj : Tri w0 (OpG P oj (MixK P w0 ops Q Hs m (ls.setIfInBounds j true)) (fun _ _ _ => False)) n L HK) (hoi : ops.toList[i]? = some oi := by rfl) (hoj : ops.toList[j]? = some oj := by rfl) (hgi : oi.guard = none := by rfl) (hgj : oj.guard = none := by rfl) (hr : decide (Region.ready .any ops ls = [i, j]) = true := by kernel_rfl) (hH : Hs ++ F = HK := by exact Wal) : TriM P w0 ops Q Hs (m + 1) ls n L F := TriM.a2 i j hoi hoj hgi hgj hr (by rw [hH]; exact hi) (by rw [hH]; exact hj)
theorem Zw (h : TriM P w0 ops Q Hs m ls n L F) (p : Pulls H Hs F := by exact Wps) : Tri w0 (MixK P w0 ops Q Hs m ls) n L H := TriM.back p h
theorem ZE (h : Tri w0 (Q .normal) n L HK) (hr : (Region.ready .any ops ls).isEmpty = true := by kernel_rfl) (hH : Hs ++ F = HK := by exact Wal) : TriM P w0 ops Q Hs 0 ls n L F := TriM.nil hr (by rw [hH]; exact h)
theorem Znl (h : Tri w0 (OpG P o (MixK P w0 ops Q Hk m (ls.setIfInBounds s true)) (fun _ _ _ => False)) n L HK) (ho : ops.toList[s]? = some o := by rfl) (hg : o.guard = none := by rfl) (hr : decide (Region.ready .any ops ls = [s]) = true := by kernel_rfl) (hH : Hs ++ F = HK := by exact Wal) : TriN P w0 ops Q s Hk Hs (m + 1) ls n L F := TriN.less ho hg hr (by rw [hH]; exact h)
theorem Zna (i : Nat) (h : Tri w0 (OpG P o (MixN P w0 ops Q s Hk Hs m (ls.setIfInBounds i true)) (fun _ _ _ => False)) n L HK) (ho : ops.toList[i]? = some o := by rfl) (hg : o.guard = none := by rfl) (hr : decide (Region.ready .any ops ls = [i]) && (!(i == s) && !(ls.getD s false)) = true := by kernel_rfl) (hH : Hs ++ F = HK := by exact Wal) : TriN P w0 ops Q s Hk Hs (m + 1) ls n L F := TriN.a i ho hg hr (by rw [hH]; exact h)
theorem Znb (h : TriN P w0 ops Q s Hk Hs m ls n L F) (hp : ∃ X, Hs = Hk ++ X := by exact ⟨_, rfl⟩) (p : Pulls H Hs F := by exact Wps) : Tri w0 (MixN P w0 ops Q s Hk Hs m ls) n L H := TriN.back hp p h
end
def AtH (Hs : List Atom) (X G : Prop) : Prop := (True → X) → G
theorem AtH.m {Hs F : List Atom} {id mm : Nat} {l : List Oper} [hm : TMixed P] (p : Pulls H Hs F) (hl : l.length = mm) : AtH Hs (TriM P w0 l.toArray Q Hs mm (Array.replicate mm false) n L F) (Tri w0 ((Code.region id l.toArray true).wp P Q) n L H) := fun h => Tri.mix Hs p (by rw [hl]; exact h trivial)
theorem AtH.r {Hs F : List Atom} {id mm : Nat} {l : List Oper} [hm : TMixed P] (p : Pulls H Hs F) (hnd : l.all nodefer = true) (hl : l.length = mm) : AtH Hs (TriM P w0 l.toArray Q Hs mm (Array.replicate mm false) n L F) (Tri w0 (Code.wr rO P (Code.region id l.toArray true) Q) n L H) := fun h => TriR.mix Hs p hnd (by rw [hl]; exact h trivial)
theorem Wm (Hs : List Atom) {X G : Prop} (k : X) (h : AtH Hs X G := by (first | with_reducible apply AtH.m | ((with_reducible apply AtH.r); (case hnd => rfl))); (case p => exact Wps); (case hl => first | (dsimp only [List.length] <;> exact rfl) | exact rfl)) : G := h fun _ => k
theorem Znm (s : Nat) (Hk Hs : List Atom) {id mm : Nat} {l : List Oper} {F : List Atom} [hm : TMixed P] (h : TriN P w0 l.toArray Q s Hk Hs mm (Array.replicate mm false) n L F) (hp : ∃ X, Hs = Hk ++ X := by exact ⟨_, rfl⟩) (p : Pulls H Hs F := by exact Wps) (hl : l.length = mm := by first | (dsimp only [List.length] <;> exact rfl) | exact rfl) : Tri w0 ((Code.region id l.toArray true).wp P Q) n L H := Tri.mixN s Hk Hs hp p (by rw [hl]; exact h)
theorem Zag {α : Type} {m : α → Nat} {Lx : α → Slots} {Hx : α → List Atom} {mx : Nat} (y : α) (hL : SubL L (Lx y) := by exact Wsl) (p : Pulls H (Hx y) R := by (try dsimp only); exact Wps) (hm : m y < mx := by (try dsimp only); omega) : Tri w0 (fun a w => ∃ y, m y < mx ∧ Has a n (Lx y) ∧ St w0 w (Hx y)) n L H := Tri.again y hm hL p
theorem Zrc {α : Type} {Lx : α → Slots} {Hx : α → List Atom} (y : α) (hL : SubL L (Lx y) := by exact Wsl) (p : Pulls H (Hx y) R := by (try dsimp only); exact Wps) : Tri w0 (fun a w => ∃ y, Has a n (Lx y) ∧ St w0 w (Hx y)) n L H := Tri.reach y hL p
section
variable {α : Type} (m : α → Nat) (Lx : α → Slots) (Hx : α → List Atom) (x0 : α)
def AtL {α : Type} (m : α → Nat) (Lx : α → Slots) (Hx : α → List Atom) (x0 : α) (X G : Prop) : Prop := (True → X) → G
theorem AtL.l {c : Code} (hL : SubL L (Lx x0)) (hH : ∀ w, St w0 w H → St w0 w (Hx x0)) : AtL m Lx Hx x0 (∀ x mx, mx = m x → Tri w0 (c.wp P (Exit.then (fun a w => ∃ y, m y < mx ∧ Has a n (Lx y) ∧ St w0 w (Hx y)) Q)) n (Lx x) (Hx x)) (Tri w0 ((Code.loop c).wp P Q) n L H) := fun h => Tri.loop m Lx Hx x0 hL hH (h trivial)
theorem AtL.r {c : Code} (hL : SubL L (Lx x0)) (hH : ∀ w, St w0 w H → St w0 w (Hx x0)) : AtL m Lx Hx x0 (∀ x mx, mx = m x → Tri w0 (Code.wr rO P c (Exit.then (fun a w => ∃ y, m y < mx ∧ Has a n (Lx y) ∧ St w0 w (Hx y)) Q)) n (Lx x) (Hx x)) (Tri w0 (Code.wr rO P (Code.loop c) Q) n L H) := fun h => TriR.loop m Lx Hx x0 hL hH (h trivial)
theorem Wl {X G : Prop} (k : X) (h : AtL m Lx Hx x0 X G := by (first | with_reducible apply AtL.l | with_reducible apply AtL.r); (case hL => exact Wsl); (case hH => ((try dsimp only); apply St.all; exact Wps))) : G := h fun _ => k
end
def AtS {α : Type} (Lx : α → Slots) (Hx : α → List Atom) (X Y G : Prop) : Prop := (True → X) → (True → Y) → G
theorem AtS.m {α : Type} {c e : Code} {Lx : α → Slots} {Hx : α → List Atom} : AtS Lx Hx (Tri w0 (c.wp P (Exit.then (fun a w => ∃ y, Has a n (Lx y) ∧ St w0 w (Hx y)) Q)) n L H) (∀ x, Tri w0 (e.wp P Q) n (Lx x) (Hx x)) (Tri w0 ((Code.seq c e).wp P Q) n L H) := fun h1 h2 => Tri.seqMeet Lx Hx (h1 trivial) (h2 trivial)
theorem AtS.r {α : Type} {c e : Code} {Lx : α → Slots} {Hx : α → List Atom} : AtS Lx Hx (Tri w0 (Code.wr rO P c (Exit.then (fun a w => ∃ y, Has a n (Lx y) ∧ St w0 w (Hx y)) Q)) n L H) (∀ x, Tri w0 (Code.wr rO P e Q) n (Lx x) (Hx x)) (Tri w0 (Code.wr rO P (Code.seq c e) Q) n L H) := fun h1 h2 => TriR.seqMeet Lx Hx (h1 trivial) (h2 trivial)
def At2 (X Y G : Prop) : Prop := (True → X) → (True → Y) → G
theorem Wcd {X Y G : Prop} (x : X) (y : Y) (h : At2 X Y G := by (intro kX kY; first | (with_reducible apply Tri.condD) | (with_reducible apply TriR.condD)); (case hc => rfl); (case ht => exact kX trivial); (case hf => exact kY trivial)) : G := h (fun _ => x) (fun _ => y)
theorem Wcb {X Y G : Prop} (x : X) (y : Y) (h : At2 X Y G := by (intro kX kY; first | (with_reducible apply Tri.cond) | (with_reducible apply TriR.cond)); (case hc => rfl); (case ht => exact kX trivial); (case hf => exact kY trivial)) : G := h (fun _ => x) (fun _ => y)
theorem ZcB (k : Nat) {b : Bool} (ht : b = true → Tri w0 G n ((k, .bool true) :: L) H) (hf : b = false → Tri w0 G n ((k, .bool false) :: L) H) (h : look L k = some (.bool b) := by rfl) : Tri w0 G n L H := Tri.casesB k h ht hf
theorem Wbx {X G : Prop} (k : X) (h : (True → X) → G := by intro kW; (first | ((with_reducible apply o_boxA); (case hx => rfl); (case hn => rfl)) | ((with_reducible apply o_box1); (case hx => rfl); (case h1 => rfl); (case hn => rfl))); exact kW trivial) : G := h fun _ => k
theorem Zd {f : FuncId} {args : List Operand} {ts : Array TypeId} {vs : List Value} {Pre HL HK : List Atom} {V : Value} [TFn P f] (hs : Spec P f vs.toArray Pre (fun r H' => r = V ∧ H' = HL)) (k : Tri w0 K n ((d, V) :: L) HK) (hargs : evs L args vs := by exact Wev) (p : Pulls H Pre H' := by exact Wps) (hn : Nat.blt d n = true := by rfl) (hH : HL ++ H' = HK := by exact Wal) : Tri w0 (OpG P ⟨some d, .call { callee := .value (.func f), args := args.toArray, argTypes := ts }, ty, pos, aft, g⟩ K Q) n L H :=
  o_callS hs hargs p hn (fun v Hq hq => by obtain ⟨rfl, rfl⟩ := hq; rw [hH]; exact k)
theorem Wres {rs : List ResultVar} {vs : List Value} (h : ResL P L H rs vs := by first | exact ResL.cons (Res1.tmp rfl) ResL.nil | exact ResL.cons (Res1.tmp rfl) (ResL.cons (Res1.tmp rfl) ResL.nil) | exact ResL.nil | exact ResL.cons (Res1.tmp rfl) (ResL.cons (Res1.tmp rfl) (ResL.cons (Res1.tmp rfl) ResL.nil)) | (repeat (first | exact ResL.nil | (apply ResL.cons; (case a => (first | exact Res1.tmp rfl | (apply Res1.cell; rfl; exact Wp; rfl) | (apply Res1.agg; rfl; exact Wp; rfl; rfl))))))) : ResL P L H rs vs := h
theorem Zat (A B : Atom) (k : Tri w0 G n L (B :: H')) (p : Pull H A H' := by exact Wp) (e : A = B := by rfl) : Tri w0 G n L H := Tri.eqA p e k
theorem Zqo {ops : Array Oper} {rest : List Oper} {v : Value} (hg : (match o.guard with | none => true | some (j, b) => (match yl L ops j with | some b' => b' == b | none => false)) = true := by rfl) (hd : o.dst = some d := by rfl) (hn : Nat.blt d n = true := by rfl) (h : ∀ K : Act → World → Prop, Tri w0 K n ((d, v) :: L) H → Tri w0 (OpG P o K (fun _ _ _ => False)) n L H) (k : TriQ P w0 ops Q rest n ((d, v) :: L) H) : TriQ P w0 ops Q (o :: rest) n L H := by
  cases hgu : o.guard with
  | none => exact TriQ.op hgu hd hn h k
  | some jb =>
    obtain ⟨j, b⟩ := jb
    cases hy : yl L ops j with
    | none => rw [hgu] at hg; simp [hy] at hg
    | some b' =>
      rw [hgu] at hg
      simp [hy] at hg
      exact TriQ.opYes hgu hy hg hd hn h k
theorem Zfn {m : Nat} {fn : Func} {rs : List ResultVar} {vs : List Value} {Rr : Value → List Atom → Prop} {F R : List Atom} {e : Exit} (Hn : List Atom) (hr : fn.results = rs.toArray := by rfl) (he : e = .ret ∨ e = .normal := by first | exact .inl rfl | exact .inr rfl) (h : ResL P L H rs vs := by exact Wres) (p : Pulls H (Hn ++ F) R := by exact Wps) (hq : Rr (tupled vs) Hn) : Tri w0 (bodyPost P fn (Ret (fun v w' => ∃ H', Rr v H' ∧ St w0 w' (H' ++ F))) e) ⟨m, []⟩ L H := by
  rcases he with rfl | rfl
  · exact Tri.fin hr h (fin_R (Rr := Rr (tupled vs)) p hq)
  · exact Tri.finN hr h (fin_R (Rr := Rr (tupled vs)) p hq)
theorem Zfr {m : Nat} {fn : Func} {rs : List ResultVar} {vs : List Value} {V : Value} {F R : List Atom} {e : Exit} (hr : fn.results = rs.toArray := by rfl) (he : e = .ret ∨ e = .normal := by first | exact .inl rfl | exact .inr rfl) (h : ResL P L H rs vs := by exact Wres) (p : Pulls H ([] ++ F) R := by exact Wps) (hq : tupled vs = V) : Tri w0 (bodyPost P fn (Ret (fun v w' => ∃ H', (v = V ∧ H' = []) ∧ St w0 w' (H' ++ F))) e) ⟨m, []⟩ L H := Zfn [] hr he h p ⟨hq, rfl⟩
theorem Zra {p : Tmp} {T T' : TypeId} {b sz : Nat} {ys : List Value} [TAgg P T sz] (hl : ys.length = sz) (h1 : look L p = some (.pointer (some ⟨b, 0, none⟩)) := by rfl) (q : Pull H (blk b T' ys) H' := by exact Wp) : Res1 P L H (.cell p T) (.agg ys.toArray) := Res1.agg h1 q (by rw [List.drop_zero]; exact List.take_of_length_le (Nat.le_of_eq hl)) hl
end
end Go.Gv
end
section
/- What the types of the program are, as instances: written by gen_ty.py. -/
namespace Go.Proofs.YtcglabmlhljkmaaGreat
open Go Go.Gv
set_option maxRecDepth 100000
instance : TPlain Tryz.prog 1 := ⟨by kernel_rfl⟩
instance : TSize Tryz.prog 1 1 := ⟨by kernel_rfl⟩
instance : TPlain Tryz.prog 2 := ⟨by kernel_rfl⟩
instance : TSize Tryz.prog 2 1 := ⟨by kernel_rfl⟩
instance : TZero Tryz.prog 2 ([.int .i64 0]) := ⟨by kernel_rfl⟩
instance : TElem Tryz.prog 2 1 8 ([.int .i64 0]) := ⟨by kernel_rfl, by kernel_rfl⟩
instance : TInt Tryz.prog 2 .i64 := ⟨Tryz.underlying2⟩
instance : TPlain Tryz.prog 3 := ⟨by kernel_rfl⟩
instance : TSize Tryz.prog 3 1 := ⟨by kernel_rfl⟩
instance : TZero Tryz.prog 3 ([.int .i64 0]) := ⟨by kernel_rfl⟩
instance : TElem Tryz.prog 3 1 8 ([.int .i64 0]) := ⟨by kernel_rfl, by kernel_rfl⟩
instance : TInt Tryz.prog 3 .i64 := ⟨Tryz.underlying3⟩
instance : TPlain Tryz.prog 4 := ⟨by kernel_rfl⟩
instance : TSize Tryz.prog 4 1 := ⟨by kernel_rfl⟩
instance : TZero Tryz.prog 4 ([.bool false]) := ⟨by kernel_rfl⟩
instance : TElem Tryz.prog 4 1 1 ([.bool false]) := ⟨by kernel_rfl, by kernel_rfl⟩
instance : TBool Tryz.prog 4 := ⟨Tryz.underlying4⟩
instance : TPlain Tryz.prog 5 := ⟨by kernel_rfl⟩
instance : TSize Tryz.prog 5 1 := ⟨by kernel_rfl⟩
instance : TZero Tryz.prog 5 ([.int .u8 0]) := ⟨by kernel_rfl⟩
instance : TElem Tryz.prog 5 1 1 ([.int .u8 0]) := ⟨by kernel_rfl, by kernel_rfl⟩
instance : TInt Tryz.prog 5 .u8 := ⟨Tryz.underlying5⟩
instance : TAgg Tryz.prog 7 4 := ⟨by kernel_rfl, by kernel_rfl⟩
instance : TSize Tryz.prog 7 4 := ⟨by kernel_rfl⟩
instance : TZero Tryz.prog 7 ([.int .i64 0, .int .i64 0, .bool false, .int .u8 0]) := ⟨by kernel_rfl⟩
instance : TElem Tryz.prog 7 4 24 ([.int .i64 0, .int .i64 0, .bool false, .int .u8 0]) := ⟨by kernel_rfl, by kernel_rfl⟩
instance : TPlaces Tryz.prog 7 [(0, 1), (1, 1), (2, 1), (3, 1)] := ⟨by kernel_rfl⟩
instance : TField Tryz.prog 7 0 0 := ⟨_, _, Tryz.underlying7, rfl, rfl, by kernel_rfl⟩
instance : TField Tryz.prog 7 1 1 := ⟨_, _, Tryz.underlying7, rfl, rfl, by kernel_rfl⟩
instance : TField Tryz.prog 7 2 2 := ⟨_, _, Tryz.underlying7, rfl, rfl, by kernel_rfl⟩
instance : TField Tryz.prog 7 3 3 := ⟨_, _, Tryz.underlying7, rfl, rfl, by kernel_rfl⟩
instance : TEq Tryz.prog 7 ([.int .i64 0, .int .i64 0, .bool false, .int .u8 0]) := ⟨by kernel_rfl, by kernel_rfl, by kernel_rfl⟩
instance : TPlain Tryz.prog 9 := ⟨by kernel_rfl⟩
instance : TSize Tryz.prog 9 1 := ⟨by kernel_rfl⟩
instance : TZero Tryz.prog 9 ([.string ⟨#[]⟩]) := ⟨by kernel_rfl⟩
instance : TElem Tryz.prog 9 1 16 ([.string ⟨#[]⟩]) := ⟨by kernel_rfl, by kernel_rfl⟩
instance : TStr Tryz.prog 9 := ⟨Tryz.underlying9⟩
instance : TPlain Tryz.prog 12 := ⟨by kernel_rfl⟩
instance : TSize Tryz.prog 12 1 := ⟨by kernel_rfl⟩
instance : TZero Tryz.prog 12 ([.int .u64 0]) := ⟨by kernel_rfl⟩
instance : TElem Tryz.prog 12 1 8 ([.int .u64 0]) := ⟨by kernel_rfl, by kernel_rfl⟩
instance : TInt Tryz.prog 12 .u64 := ⟨Tryz.underlying12⟩
instance : TAgg Tryz.prog 13 2 := ⟨by kernel_rfl, by kernel_rfl⟩
instance : TSize Tryz.prog 13 2 := ⟨by kernel_rfl⟩
instance : TZero Tryz.prog 13 ([.string ⟨#[]⟩, .int .u64 0]) := ⟨by kernel_rfl⟩
instance : TElem Tryz.prog 13 2 24 ([.string ⟨#[]⟩, .int .u64 0]) := ⟨by kernel_rfl, by kernel_rfl⟩
instance : TPlaces Tryz.prog 13 [(0, 1), (1, 1)] := ⟨by kernel_rfl⟩
instance : TField Tryz.prog 13 0 0 := ⟨_, _, Tryz.underlying13, rfl, rfl, by kernel_rfl⟩
instance : TField Tryz.prog 13 1 1 := ⟨_, _, Tryz.underlying13, rfl, rfl, by kernel_rfl⟩
instance : TAgg Tryz.prog 18 1 := ⟨by kernel_rfl, by kernel_rfl⟩
instance : TSize Tryz.prog 18 1 := ⟨by kernel_rfl⟩
instance : TZero Tryz.prog 18 ([.pointer none]) := ⟨by kernel_rfl⟩
instance : TElem Tryz.prog 18 1 8 ([.pointer none]) := ⟨by kernel_rfl, by kernel_rfl⟩
instance : TPlaces Tryz.prog 18 [(0, 1)] := ⟨by kernel_rfl⟩
instance : TField Tryz.prog 18 0 0 := ⟨_, _, Tryz.underlying18, rfl, rfl, by kernel_rfl⟩
instance : TPlain Tryz.prog 20 := ⟨by kernel_rfl⟩
instance : TSize Tryz.prog 20 1 := ⟨by kernel_rfl⟩
instance : TZero Tryz.prog 20 ([.nilIface]) := ⟨by kernel_rfl⟩
instance : TElem Tryz.prog 20 1 16 ([.nilIface]) := ⟨by kernel_rfl, by kernel_rfl⟩
instance : TPlain Tryz.prog 21 := ⟨by kernel_rfl⟩
instance : TSize Tryz.prog 21 1 := ⟨by kernel_rfl⟩
instance : TZero Tryz.prog 21 ([.int .i32 0]) := ⟨by kernel_rfl⟩
instance : TElem Tryz.prog 21 1 4 ([.int .i32 0]) := ⟨by kernel_rfl, by kernel_rfl⟩
instance : TInt Tryz.prog 21 .i32 := ⟨Tryz.underlying21⟩
instance : TPlain Tryz.prog 22 := ⟨by kernel_rfl⟩
instance : TSize Tryz.prog 22 1 := ⟨by kernel_rfl⟩
instance : TZero Tryz.prog 22 ([.int .u64 0]) := ⟨by kernel_rfl⟩
instance : TElem Tryz.prog 22 1 8 ([.int .u64 0]) := ⟨by kernel_rfl, by kernel_rfl⟩
instance : TInt Tryz.prog 22 .u64 := ⟨Tryz.underlying22⟩
instance : TPlain Tryz.prog 23 := ⟨by kernel_rfl⟩
instance : TSize Tryz.prog 23 1 := ⟨by kernel_rfl⟩
instance : TZero Tryz.prog 23 ([.pointer none]) := ⟨by kernel_rfl⟩
instance : TElem Tryz.prog 23 1 8 ([.pointer none]) := ⟨by kernel_rfl, by kernel_rfl⟩
instance : TPtr Tryz.prog 23 := ⟨by kernel_rfl⟩
instance : TPlain Tryz.prog 24 := ⟨by kernel_rfl⟩
instance : TSize Tryz.prog 24 1 := ⟨by kernel_rfl⟩
instance : TZero Tryz.prog 24 ([.pointer none]) := ⟨by kernel_rfl⟩
instance : TElem Tryz.prog 24 1 8 ([.pointer none]) := ⟨by kernel_rfl, by kernel_rfl⟩
instance : TPtr Tryz.prog 24 := ⟨by kernel_rfl⟩
instance : TPlain Tryz.prog 26 := ⟨by kernel_rfl⟩
instance : TSize Tryz.prog 26 1 := ⟨by kernel_rfl⟩
instance : TPlain Tryz.prog 27 := ⟨by kernel_rfl⟩
instance : TSize Tryz.prog 27 1 := ⟨by kernel_rfl⟩
instance : TPlain Tryz.prog 28 := ⟨by kernel_rfl⟩
instance : TSize Tryz.prog 28 1 := ⟨by kernel_rfl⟩
instance : TZero Tryz.prog 28 ([.slice none 0 0]) := ⟨by kernel_rfl⟩
instance : TElem Tryz.prog 28 1 24 ([.slice none 0 0]) := ⟨by kernel_rfl, by kernel_rfl⟩
instance : TSlice Tryz.prog 28 34 := ⟨Tryz.underlying28⟩
instance : TPlain Tryz.prog 29 := ⟨by kernel_rfl⟩
instance : TSize Tryz.prog 29 1 := ⟨by kernel_rfl⟩
instance : TZero Tryz.prog 29 ([.slice none 0 0]) := ⟨by kernel_rfl⟩
instance : TElem Tryz.prog 29 1 24 ([.slice none 0 0]) := ⟨by kernel_rfl, by kernel_rfl⟩
instance : TSlice Tryz.prog 29 40 := ⟨Tryz.underlying29⟩
instance : TAgg Tryz.prog 30 2 := ⟨by kernel_rfl, by kernel_rfl⟩
instance : TSize Tryz.prog 30 2 := ⟨by kernel_rfl⟩
instance : TZero Tryz.prog 30 ([.int .i64 0, .int .i64 0]) := ⟨by kernel_rfl⟩
instance : TElem Tryz.prog 30 2 16 ([.int .i64 0, .int .i64 0]) := ⟨by kernel_rfl, by kernel_rfl⟩
instance : TPlaces Tryz.prog 30 [(0, 1), (1, 1)] := ⟨by kernel_rfl⟩
instance : TField Tryz.prog 30 0 0 := ⟨_, _, Tryz.underlying30, rfl, rfl, by kernel_rfl⟩
instance : TField Tryz.prog 30 1 1 := ⟨_, _, Tryz.underlying30, rfl, rfl, by kernel_rfl⟩
instance : TEq Tryz.prog 30 ([.int .i64 0, .int .i64 0]) := ⟨by kernel_rfl, by kernel_rfl, by kernel_rfl⟩
instance : TAgg Tryz.prog 31 2 := ⟨by kernel_rfl, by kernel_rfl⟩
instance : TSize Tryz.prog 31 2 := ⟨by kernel_rfl⟩
instance : TZero Tryz.prog 31 ([.int .i64 0, .int .i64 0]) := ⟨by kernel_rfl⟩
instance : TElem Tryz.prog 31 2 16 ([.int .i64 0, .int .i64 0]) := ⟨by kernel_rfl, by kernel_rfl⟩
instance : TPlaces Tryz.prog 31 [(0, 1), (1, 1)] := ⟨by kernel_rfl⟩
instance : TField Tryz.prog 31 0 0 := ⟨_, _, Tryz.underlying31, rfl, rfl, by kernel_rfl⟩
instance : TField Tryz.prog 31 1 1 := ⟨_, _, Tryz.underlying31, rfl, rfl, by kernel_rfl⟩
instance : TEq Tryz.prog 31 ([.int .i64 0, .int .i64 0]) := ⟨by kernel_rfl, by kernel_rfl, by kernel_rfl⟩
instance : TPlain Tryz.prog 32 := ⟨by kernel_rfl⟩
instance : TSize Tryz.prog 32 1 := ⟨by kernel_rfl⟩
instance : TZero Tryz.prog 32 ([.int .u32 0]) := ⟨by kernel_rfl⟩
instance : TElem Tryz.prog 32 1 4 ([.int .u32 0]) := ⟨by kernel_rfl, by kernel_rfl⟩
instance : TInt Tryz.prog 32 .u32 := ⟨Tryz.underlying32⟩
instance : TAgg Tryz.prog 33 8 := ⟨by kernel_rfl, by kernel_rfl⟩
instance : TSize Tryz.prog 33 8 := ⟨by kernel_rfl⟩
instance : TZero Tryz.prog 33 ([.int .i64 0, .int .i64 0, .int .i64 0, .int .i64 0, .int .i64 0, .int .i64 0, .int .i64 0, .int .u32 0]) := ⟨by kernel_rfl⟩
instance : TElem Tryz.prog 33 8 64 ([.int .i64 0, .int .i64 0, .int .i64 0, .int .i64 0, .int .i64 0, .int .i64 0, .int .i64 0, .int .u32 0]) := ⟨by kernel_rfl, by kernel_rfl⟩
instance : TPlaces Tryz.prog 33 [(0, 2), (2, 1), (3, 1), (4, 1), (5, 1), (6, 1), (7, 1)] := ⟨by kernel_rfl⟩
instance : TField Tryz.prog 33 0 0 := ⟨_, _, Tryz.underlying33, rfl, rfl, by kernel_rfl⟩
instance : TField Tryz.prog 33 1 2 := ⟨_, _, Tryz.underlying33, rfl, rfl, by kernel_rfl⟩
instance : TField Tryz.prog 33 2 3 := ⟨_, _, Tryz.underlying33, rfl, rfl, by kernel_rfl⟩
instance : TField Tryz.prog 33 3 4 := ⟨_, _, Tryz.underlying33, rfl, rfl, by kernel_rfl⟩
instance : TField Tryz.prog 33 4 5 := ⟨_, _, Tryz.underlying33, rfl, rfl, by kernel_rfl⟩
instance : TField Tryz.prog 33 5 6 := ⟨_, _, Tryz.underlying33, rfl, rfl, by kernel_rfl⟩
instance : TField Tryz.prog 33 6 7 := ⟨_, _, Tryz.underlying33, rfl, rfl, by kernel_rfl⟩
instance : TEq Tryz.prog 33 ([.int .i64 0, .int .i64 0, .int .i64 0, .int .i64 0, .int .i64 0, .int .i64 0, .int .i64 0, .int .u32 0]) := ⟨by kernel_rfl, by kernel_rfl, by kernel_rfl⟩
instance : TAgg Tryz.prog 34 8 := ⟨by kernel_rfl, by kernel_rfl⟩
instance : TSize Tryz.prog 34 8 := ⟨by kernel_rfl⟩
instance : TZero Tryz.prog 34 ([.int .i64 0, .int .i64 0, .int .i64 0, .int .i64 0, .int .i64 0, .int .i64 0, .int .i64 0, .int .u32 0]) := ⟨by kernel_rfl⟩
instance : TElem Tryz.prog 34 8 64 ([.int .i64 0, .int .i64 0, .int .i64 0, .int .i64 0, .int .i64 0, .int .i64 0, .int .i64 0, .int .u32 0]) := ⟨by kernel_rfl, by kernel_rfl⟩
instance : TPlaces Tryz.prog 34 [(0, 2), (2, 1), (3, 1), (4, 1), (5, 1), (6, 1), (7, 1)] := ⟨by kernel_rfl⟩
instance : TField Tryz.prog 34 0 0 := ⟨_, _, Tryz.underlying34, rfl, rfl, by kernel_rfl⟩
instance : TField Tryz.prog 34 1 2 := ⟨_, _, Tryz.underlying34, rfl, rfl, by kernel_rfl⟩
instance : TField Tryz.prog 34 2 3 := ⟨_, _, Tryz.underlying34, rfl, rfl, by kernel_rfl⟩
instance : TField Tryz.prog 34 3 4 := ⟨_, _, Tryz.underlying34, rfl, rfl, by kernel_rfl⟩
instance : TField Tryz.prog 34 4 5 := ⟨_, _, Tryz.underlying34, rfl, rfl, by kernel_rfl⟩
instance : TField Tryz.prog 34 5 6 := ⟨_, _, Tryz.underlying34, rfl, rfl, by kernel_rfl⟩
instance : TField Tryz.prog 34 6 7 := ⟨_, _, Tryz.underlying34, rfl, rfl, by kernel_rfl⟩
instance : TEq Tryz.prog 34 ([.int .i64 0, .int .i64 0, .int .i64 0, .int .i64 0, .int .i64 0, .int .i64 0, .int .i64 0, .int .u32 0]) := ⟨by kernel_rfl, by kernel_rfl, by kernel_rfl⟩
instance : TAgg Tryz.prog 35 5 := ⟨by kernel_rfl, by kernel_rfl⟩
instance : TSize Tryz.prog 35 5 := ⟨by kernel_rfl⟩
instance : TZero Tryz.prog 35 ([.int .i64 0, .int .i64 0, .int .i64 0, .int .i64 0, .int .i64 0]) := ⟨by kernel_rfl⟩
instance : TElem Tryz.prog 35 5 40 ([.int .i64 0, .int .i64 0, .int .i64 0, .int .i64 0, .int .i64 0]) := ⟨by kernel_rfl, by kernel_rfl⟩
instance : TPlaces Tryz.prog 35 [(0, 1), (1, 1), (2, 1), (3, 1), (4, 1)] := ⟨by kernel_rfl⟩
instance : TField Tryz.prog 35 0 0 := ⟨_, _, Tryz.underlying35, rfl, rfl, by kernel_rfl⟩
instance : TField Tryz.prog 35 1 1 := ⟨_, _, Tryz.underlying35, rfl, rfl, by kernel_rfl⟩
instance : TField Tryz.prog 35 2 2 := ⟨_, _, Tryz.underlying35, rfl, rfl, by kernel_rfl⟩
instance : TField Tryz.prog 35 3 3 := ⟨_, _, Tryz.underlying35, rfl, rfl, by kernel_rfl⟩
instance : TField Tryz.prog 35 4 4 := ⟨_, _, Tryz.underlying35, rfl, rfl, by kernel_rfl⟩
instance : TEq Tryz.prog 35 ([.int .i64 0, .int .i64 0, .int .i64 0, .int .i64 0, .int .i64 0]) := ⟨by kernel_rfl, by kernel_rfl, by kernel_rfl⟩
instance : TAgg Tryz.prog 36 5 := ⟨by kernel_rfl, by kernel_rfl⟩
instance : TSize Tryz.prog 36 5 := ⟨by kernel_rfl⟩
instance : TZero Tryz.prog 36 ([.int .i64 0, .int .i64 0, .int .i64 0, .int .i64 0, .int .i64 0]) := ⟨by kernel_rfl⟩
instance : TElem Tryz.prog 36 5 40 ([.int .i64 0, .int .i64 0, .int .i64 0, .int .i64 0, .int .i64 0]) := ⟨by kernel_rfl, by kernel_rfl⟩
instance : TPlaces Tryz.prog 36 [(0, 1), (1, 1), (2, 1), (3, 1), (4, 1)] := ⟨by kernel_rfl⟩
instance : TField Tryz.prog 36 0 0 := ⟨_, _, Tryz.underlying36, rfl, rfl, by kernel_rfl⟩
instance : TField Tryz.prog 36 1 1 := ⟨_, _, Tryz.underlying36, rfl, rfl, by kernel_rfl⟩
instance : TField Tryz.prog 36 2 2 := ⟨_, _, Tryz.underlying36, rfl, rfl, by kernel_rfl⟩
instance : TField Tryz.prog 36 3 3 := ⟨_, _, Tryz.underlying36, rfl, rfl, by kernel_rfl⟩
instance : TField Tryz.prog 36 4 4 := ⟨_, _, Tryz.underlying36, rfl, rfl, by kernel_rfl⟩
instance : TEq Tryz.prog 36 ([.int .i64 0, .int .i64 0, .int .i64 0, .int .i64 0, .int .i64 0]) := ⟨by kernel_rfl, by kernel_rfl, by kernel_rfl⟩
instance : TPlain Tryz.prog 37 := ⟨by kernel_rfl⟩
instance : TSize Tryz.prog 37 1 := ⟨by kernel_rfl⟩
instance : TAgg Tryz.prog 38 2 := ⟨by kernel_rfl, by kernel_rfl⟩
instance : TSize Tryz.prog 38 2 := ⟨by kernel_rfl⟩
instance : TZero Tryz.prog 38 ([.int .i64 0, .int .i64 0]) := ⟨by kernel_rfl⟩
instance : TElem Tryz.prog 38 2 16 ([.int .i64 0, .int .i64 0]) := ⟨by kernel_rfl, by kernel_rfl⟩
instance : TPlaces Tryz.prog 38 [(0, 1), (1, 1)] := ⟨by kernel_rfl⟩
instance : TField Tryz.prog 38 0 0 := ⟨_, _, Tryz.underlying38, rfl, rfl, by kernel_rfl⟩
instance : TField Tryz.prog 38 1 1 := ⟨_, _, Tryz.underlying38, rfl, rfl, by kernel_rfl⟩
instance : TEq Tryz.prog 38 ([.int .i64 0, .int .i64 0]) := ⟨by kernel_rfl, by kernel_rfl, by kernel_rfl⟩
instance : TAgg Tryz.prog 39 8 := ⟨by kernel_rfl, by kernel_rfl⟩
instance : TSize Tryz.prog 39 8 := ⟨by kernel_rfl⟩
instance : TZero Tryz.prog 39 ([.int .i64 0, .int .i64 0, .int .i64 0, .int .i64 0, .int .i64 0, .int .i64 0, .int .i64 0, .int .u32 0]) := ⟨by kernel_rfl⟩
instance : TElem Tryz.prog 39 8 64 ([.int .i64 0, .int .i64 0, .int .i64 0, .int .i64 0, .int .i64 0, .int .i64 0, .int .i64 0, .int .u32 0]) := ⟨by kernel_rfl, by kernel_rfl⟩
instance : TPlaces Tryz.prog 39 [(0, 2), (2, 1), (3, 1), (4, 1), (5, 1), (6, 1), (7, 1)] := ⟨by kernel_rfl⟩
instance : TField Tryz.prog 39 0 0 := ⟨_, _, Tryz.underlying39, rfl, rfl, by kernel_rfl⟩
instance : TField Tryz.prog 39 1 2 := ⟨_, _, Tryz.underlying39, rfl, rfl, by kernel_rfl⟩
instance : TField Tryz.prog 39 2 3 := ⟨_, _, Tryz.underlying39, rfl, rfl, by kernel_rfl⟩
instance : TField Tryz.prog 39 3 4 := ⟨_, _, Tryz.underlying39, rfl, rfl, by kernel_rfl⟩
instance : TField Tryz.prog 39 4 5 := ⟨_, _, Tryz.underlying39, rfl, rfl, by kernel_rfl⟩
instance : TField Tryz.prog 39 5 6 := ⟨_, _, Tryz.underlying39, rfl, rfl, by kernel_rfl⟩
instance : TField Tryz.prog 39 6 7 := ⟨_, _, Tryz.underlying39, rfl, rfl, by kernel_rfl⟩
instance : TEq Tryz.prog 39 ([.int .i64 0, .int .i64 0, .int .i64 0, .int .i64 0, .int .i64 0, .int .i64 0, .int .i64 0, .int .u32 0]) := ⟨by kernel_rfl, by kernel_rfl, by kernel_rfl⟩
instance : TAgg Tryz.prog 40 8 := ⟨by kernel_rfl, by kernel_rfl⟩
instance : TSize Tryz.prog 40 8 := ⟨by kernel_rfl⟩
instance : TZero Tryz.prog 40 ([.int .i64 0, .int .i64 0, .int .i64 0, .int .i64 0, .int .i64 0, .int .i64 0, .int .i64 0, .int .u32 0]) := ⟨by kernel_rfl⟩
instance : TElem Tryz.prog 40 8 64 ([.int .i64 0, .int .i64 0, .int .i64 0, .int .i64 0, .int .i64 0, .int .i64 0, .int .i64 0, .int .u32 0]) := ⟨by kernel_rfl, by kernel_rfl⟩
instance : TPlaces Tryz.prog 40 [(0, 2), (2, 1), (3, 1), (4, 1), (5, 1), (6, 1), (7, 1)] := ⟨by kernel_rfl⟩
instance : TField Tryz.prog 40 0 0 := ⟨_, _, Tryz.underlying40, rfl, rfl, by kernel_rfl⟩
instance : TField Tryz.prog 40 1 2 := ⟨_, _, Tryz.underlying40, rfl, rfl, by kernel_rfl⟩
instance : TField Tryz.prog 40 2 3 := ⟨_, _, Tryz.underlying40, rfl, rfl, by kernel_rfl⟩
instance : TField Tryz.prog 40 3 4 := ⟨_, _, Tryz.underlying40, rfl, rfl, by kernel_rfl⟩
instance : TField Tryz.prog 40 4 5 := ⟨_, _, Tryz.underlying40, rfl, rfl, by kernel_rfl⟩
instance : TField Tryz.prog 40 5 6 := ⟨_, _, Tryz.underlying40, rfl, rfl, by kernel_rfl⟩
instance : TField Tryz.prog 40 6 7 := ⟨_, _, Tryz.underlying40, rfl, rfl, by kernel_rfl⟩
instance : TEq Tryz.prog 40 ([.int .i64 0, .int .i64 0, .int .i64 0, .int .i64 0, .int .i64 0, .int .i64 0, .int .i64 0, .int .u32 0]) := ⟨by kernel_rfl, by kernel_rfl, by kernel_rfl⟩
instance : TPlain Tryz.prog 41 := ⟨by kernel_rfl⟩
instance : TSize Tryz.prog 41 1 := ⟨by kernel_rfl⟩
instance : TAgg Tryz.prog 42 2 := ⟨by kernel_rfl, by kernel_rfl⟩
instance : TSize Tryz.prog 42 2 := ⟨by kernel_rfl⟩
instance : TZero Tryz.prog 42 ([.int .i64 0, .int .i64 0]) := ⟨by kernel_rfl⟩
instance : TElem Tryz.prog 42 2 16 ([.int .i64 0, .int .i64 0]) := ⟨by kernel_rfl, by kernel_rfl⟩
instance : TPlaces Tryz.prog 42 [(0, 1), (1, 1)] := ⟨by kernel_rfl⟩
instance : TField Tryz.prog 42 0 0 := ⟨_, _, Tryz.underlying42, rfl, rfl, by kernel_rfl⟩
instance : TField Tryz.prog 42 1 1 := ⟨_, _, Tryz.underlying42, rfl, rfl, by kernel_rfl⟩
instance : TEq Tryz.prog 42 ([.int .i64 0, .int .i64 0]) := ⟨by kernel_rfl, by kernel_rfl, by kernel_rfl⟩
instance : TAgg Tryz.prog 43 2 := ⟨by kernel_rfl, by kernel_rfl⟩
instance : TSize Tryz.prog 43 2 := ⟨by kernel_rfl⟩
instance : TZero Tryz.prog 43 ([.int .i64 0, .int .i64 0]) := ⟨by kernel_rfl⟩
instance : TElem Tryz.prog 43 2 16 ([.int .i64 0, .int .i64 0]) := ⟨by kernel_rfl, by kernel_rfl⟩
instance : TPlaces Tryz.prog 43 [(0, 1), (1, 1)] := ⟨by kernel_rfl⟩
instance : TField Tryz.prog 43 0 0 := ⟨_, _, Tryz.underlying43, rfl, rfl, by kernel_rfl⟩
instance : TField Tryz.prog 43 1 1 := ⟨_, _, Tryz.underlying43, rfl, rfl, by kernel_rfl⟩
instance : TEq Tryz.prog 43 ([.int .i64 0, .int .i64 0]) := ⟨by kernel_rfl, by kernel_rfl, by kernel_rfl⟩
instance : TPlain Tryz.prog 44 := ⟨by kernel_rfl⟩
instance : TSize Tryz.prog 44 1 := ⟨by kernel_rfl⟩
instance : TZero Tryz.prog 44 ([.int .i64 0]) := ⟨by kernel_rfl⟩
instance : TElem Tryz.prog 44 1 8 ([.int .i64 0]) := ⟨by kernel_rfl, by kernel_rfl⟩
instance : TInt Tryz.prog 44 .i64 := ⟨Tryz.underlying44⟩
instance : TPlain Tryz.prog 46 := ⟨by kernel_rfl⟩
instance : TSize Tryz.prog 46 1 := ⟨by kernel_rfl⟩
instance : TPlain Tryz.prog 48 := ⟨by kernel_rfl⟩
instance : TSize Tryz.prog 48 1 := ⟨by kernel_rfl⟩
instance : TPlain Tryz.prog 49 := ⟨by kernel_rfl⟩
instance : TSize Tryz.prog 49 1 := ⟨by kernel_rfl⟩
instance : TPlain Tryz.prog 50 := ⟨by kernel_rfl⟩
instance : TSize Tryz.prog 50 1 := ⟨by kernel_rfl⟩
instance : TPlain Tryz.prog 52 := ⟨by kernel_rfl⟩
instance : TSize Tryz.prog 52 1 := ⟨by kernel_rfl⟩
instance : TPlain Tryz.prog 53 := ⟨by kernel_rfl⟩
instance : TSize Tryz.prog 53 1 := ⟨by kernel_rfl⟩
instance : TPlain Tryz.prog 55 := ⟨by kernel_rfl⟩
instance : TSize Tryz.prog 55 1 := ⟨by kernel_rfl⟩
instance : TPlain Tryz.prog 56 := ⟨by kernel_rfl⟩
instance : TSize Tryz.prog 56 1 := ⟨by kernel_rfl⟩
instance : TPlain Tryz.prog 57 := ⟨by kernel_rfl⟩
instance : TSize Tryz.prog 57 1 := ⟨by kernel_rfl⟩
instance : TZero Tryz.prog 57 ([.slice none 0 0]) := ⟨by kernel_rfl⟩
instance : TElem Tryz.prog 57 1 24 ([.slice none 0 0]) := ⟨by kernel_rfl, by kernel_rfl⟩
instance : TSlice Tryz.prog 57 3 := ⟨Tryz.underlying57⟩
instance : TAgg Tryz.prog 58 512 := ⟨by kernel_rfl, by kernel_rfl⟩
instance : TSize Tryz.prog 58 512 := ⟨by kernel_rfl⟩
instance : TZero Tryz.prog 58 (List.replicate 512 (.bool false)) := ⟨by kernel_rfl⟩
instance : TElem Tryz.prog 58 512 512 (List.replicate 512 (.bool false)) := ⟨by kernel_rfl, by kernel_rfl⟩
instance : TEq Tryz.prog 58 (List.replicate 512 (.bool false)) := ⟨by kernel_rfl, by kernel_rfl, by kernel_rfl⟩
instance : TArr Tryz.prog 58 512 4 1 := ⟨Tryz.underlying58, by kernel_rfl⟩
instance : TAgg Tryz.prog 59 513 := ⟨by kernel_rfl, by kernel_rfl⟩
instance : TSize Tryz.prog 59 513 := ⟨by kernel_rfl⟩
instance : TZero Tryz.prog 59 ([.int .i64 0] ++ (List.replicate 512 (.bool false))) := ⟨by kernel_rfl⟩
instance : TElem Tryz.prog 59 513 520 ([.int .i64 0] ++ (List.replicate 512 (.bool false))) := ⟨by kernel_rfl, by kernel_rfl⟩
instance : TPlaces Tryz.prog 59 [(0, 1), (1, 512)] := ⟨by kernel_rfl⟩
instance : TField Tryz.prog 59 0 0 := ⟨_, _, Tryz.underlying59, rfl, rfl, by kernel_rfl⟩
instance : TField Tryz.prog 59 1 1 := ⟨_, _, Tryz.underlying59, rfl, rfl, by kernel_rfl⟩
instance : TEq Tryz.prog 59 ([.int .i64 0] ++ (List.replicate 512 (.bool false))) := ⟨by kernel_rfl, by kernel_rfl, by kernel_rfl⟩
instance : TAgg Tryz.prog 60 513 := ⟨by kernel_rfl, by kernel_rfl⟩
instance : TSize Tryz.prog 60 513 := ⟨by kernel_rfl⟩
instance : TZero Tryz.prog 60 ([.int .i64 0] ++ (List.replicate 512 (.bool false))) := ⟨by kernel_rfl⟩
instance : TElem Tryz.prog 60 513 520 ([.int .i64 0] ++ (List.replicate 512 (.bool false))) := ⟨by kernel_rfl, by kernel_rfl⟩
instance : TPlaces Tryz.prog 60 [(0, 1), (1, 512)] := ⟨by kernel_rfl⟩
instance : TField Tryz.prog 60 0 0 := ⟨_, _, Tryz.underlying60, rfl, rfl, by kernel_rfl⟩
instance : TField Tryz.prog 60 1 1 := ⟨_, _, Tryz.underlying60, rfl, rfl, by kernel_rfl⟩
instance : TEq Tryz.prog 60 ([.int .i64 0] ++ (List.replicate 512 (.bool false))) := ⟨by kernel_rfl, by kernel_rfl, by kernel_rfl⟩
instance : TPlain Tryz.prog 61 := ⟨by kernel_rfl⟩
instance : TSize Tryz.prog 61 1 := ⟨by kernel_rfl⟩
instance : TPlain Tryz.prog 62 := ⟨by kernel_rfl⟩
instance : TSize Tryz.prog 62 1 := ⟨by kernel_rfl⟩
instance : TPlain Tryz.prog 63 := ⟨by kernel_rfl⟩
instance : TSize Tryz.prog 63 1 := ⟨by kernel_rfl⟩
instance : TPlain Tryz.prog 64 := ⟨by kernel_rfl⟩
instance : TSize Tryz.prog 64 1 := ⟨by kernel_rfl⟩
instance : TPlain Tryz.prog 66 := ⟨by kernel_rfl⟩
instance : TSize Tryz.prog 66 1 := ⟨by kernel_rfl⟩
instance : TPlain Tryz.prog 68 := ⟨by kernel_rfl⟩
instance : TSize Tryz.prog 68 1 := ⟨by kernel_rfl⟩
instance : TAgg Tryz.prog 69 256 := ⟨by kernel_rfl, by kernel_rfl⟩
instance : TSize Tryz.prog 69 256 := ⟨by kernel_rfl⟩
instance : TZero Tryz.prog 69 (List.replicate 256 (.int .u32 0)) := ⟨by kernel_rfl⟩
instance : TElem Tryz.prog 69 256 1024 (List.replicate 256 (.int .u32 0)) := ⟨by kernel_rfl, by kernel_rfl⟩
instance : TEq Tryz.prog 69 (List.replicate 256 (.int .u32 0)) := ⟨by kernel_rfl, by kernel_rfl, by kernel_rfl⟩
instance : TArr Tryz.prog 69 256 32 1 := ⟨Tryz.underlying69, by kernel_rfl⟩
instance : TAgg Tryz.prog 70 256 := ⟨by kernel_rfl, by kernel_rfl⟩
instance : TSize Tryz.prog 70 256 := ⟨by kernel_rfl⟩
instance : TZero Tryz.prog 70 (List.replicate 256 (.int .u32 0)) := ⟨by kernel_rfl⟩
instance : TElem Tryz.prog 70 256 1024 (List.replicate 256 (.int .u32 0)) := ⟨by kernel_rfl, by kernel_rfl⟩
instance : TEq Tryz.prog 70 (List.replicate 256 (.int .u32 0)) := ⟨by kernel_rfl, by kernel_rfl, by kernel_rfl⟩
instance : TArr Tryz.prog 70 256 32 1 := ⟨Tryz.underlying70, by kernel_rfl⟩
instance : TPlain Tryz.prog 71 := ⟨by kernel_rfl⟩
instance : TSize Tryz.prog 71 1 := ⟨by kernel_rfl⟩
instance : TPlain Tryz.prog 72 := ⟨by kernel_rfl⟩
instance : TSize Tryz.prog 72 1 := ⟨by kernel_rfl⟩
instance : TPlain Tryz.prog 74 := ⟨by kernel_rfl⟩
instance : TSize Tryz.prog 74 1 := ⟨by kernel_rfl⟩
instance : TPlain Tryz.prog 75 := ⟨by kernel_rfl⟩
instance : TSize Tryz.prog 75 1 := ⟨by kernel_rfl⟩
instance : TZero Tryz.prog 75 ([.pointer none]) := ⟨by kernel_rfl⟩
instance : TElem Tryz.prog 75 1 8 ([.pointer none]) := ⟨by kernel_rfl, by kernel_rfl⟩
instance : TPtr Tryz.prog 75 := ⟨by kernel_rfl⟩
instance : TPlain Tryz.prog 77 := ⟨by kernel_rfl⟩
instance : TSize Tryz.prog 77 1 := ⟨by kernel_rfl⟩
instance : TPlain Tryz.prog 78 := ⟨by kernel_rfl⟩
instance : TSize Tryz.prog 78 1 := ⟨by kernel_rfl⟩
instance : TZero Tryz.prog 78 ([.pointer none]) := ⟨by kernel_rfl⟩
instance : TElem Tryz.prog 78 1 8 ([.pointer none]) := ⟨by kernel_rfl, by kernel_rfl⟩
instance : TPtr Tryz.prog 78 := ⟨by kernel_rfl⟩
instance : TPlain Tryz.prog 80 := ⟨by kernel_rfl⟩
instance : TSize Tryz.prog 80 1 := ⟨by kernel_rfl⟩
instance : TPlain Tryz.prog 81 := ⟨by kernel_rfl⟩
instance : TSize Tryz.prog 81 1 := ⟨by kernel_rfl⟩
instance : TAgg Tryz.prog 82 5 := ⟨by kernel_rfl, by kernel_rfl⟩
instance : TSize Tryz.prog 82 5 := ⟨by kernel_rfl⟩
instance : TZero Tryz.prog 82 ([.int .u64 0, .int .i64 0, .int .i64 0, .int .i64 0, .int .i64 0]) := ⟨by kernel_rfl⟩
instance : TElem Tryz.prog 82 5 40 ([.int .u64 0, .int .i64 0, .int .i64 0, .int .i64 0, .int .i64 0]) := ⟨by kernel_rfl, by kernel_rfl⟩
instance : TPlaces Tryz.prog 82 [(0, 1), (1, 2), (3, 1), (4, 1)] := ⟨by kernel_rfl⟩
instance : TField Tryz.prog 82 0 0 := ⟨_, _, Tryz.underlying82, rfl, rfl, by kernel_rfl⟩
instance : TField Tryz.prog 82 1 1 := ⟨_, _, Tryz.underlying82, rfl, rfl, by kernel_rfl⟩
instance : TField Tryz.prog 82 2 3 := ⟨_, _, Tryz.underlying82, rfl, rfl, by kernel_rfl⟩
instance : TField Tryz.prog 82 3 4 := ⟨_, _, Tryz.underlying82, rfl, rfl, by kernel_rfl⟩
instance : TEq Tryz.prog 82 ([.int .u64 0, .int .i64 0, .int .i64 0, .int .i64 0, .int .i64 0]) := ⟨by kernel_rfl, by kernel_rfl, by kernel_rfl⟩
instance : TAgg Tryz.prog 83 5 := ⟨by kernel_rfl, by kernel_rfl⟩
instance : TSize Tryz.prog 83 5 := ⟨by kernel_rfl⟩
instance : TZero Tryz.prog 83 ([.int .u64 0, .int .i64 0, .int .i64 0, .int .i64 0, .int .i64 0]) := ⟨by kernel_rfl⟩
instance : TElem Tryz.prog 83 5 40 ([.int .u64 0, .int .i64 0, .int .i64 0, .int .i64 0, .int .i64 0]) := ⟨by kernel_rfl, by kernel_rfl⟩
instance : TPlaces Tryz.prog 83 [(0, 1), (1, 2), (3, 1), (4, 1)] := ⟨by kernel_rfl⟩
instance : TField Tryz.prog 83 0 0 := ⟨_, _, Tryz.underlying83, rfl, rfl, by kernel_rfl⟩
instance : TField Tryz.prog 83 1 1 := ⟨_, _, Tryz.underlying83, rfl, rfl, by kernel_rfl⟩
instance : TField Tryz.prog 83 2 3 := ⟨_, _, Tryz.underlying83, rfl, rfl, by kernel_rfl⟩
instance : TField Tryz.prog 83 3 4 := ⟨_, _, Tryz.underlying83, rfl, rfl, by kernel_rfl⟩
instance : TEq Tryz.prog 83 ([.int .u64 0, .int .i64 0, .int .i64 0, .int .i64 0, .int .i64 0]) := ⟨by kernel_rfl, by kernel_rfl, by kernel_rfl⟩
instance : TPlain Tryz.prog 84 := ⟨by kernel_rfl⟩
instance : TSize Tryz.prog 84 1 := ⟨by kernel_rfl⟩
instance : TPlain Tryz.prog 85 := ⟨by kernel_rfl⟩
instance : TSize Tryz.prog 85 1 := ⟨by kernel_rfl⟩
instance : TPlain Tryz.prog 86 := ⟨by kernel_rfl⟩
instance : TSize Tryz.prog 86 1 := ⟨by kernel_rfl⟩
instance : TZero Tryz.prog 86 ([.slice none 0 0]) := ⟨by kernel_rfl⟩
instance : TElem Tryz.prog 86 1 24 ([.slice none 0 0]) := ⟨by kernel_rfl, by kernel_rfl⟩
instance : TSlice Tryz.prog 86 5 := ⟨Tryz.underlying86⟩
instance : TAgg Tryz.prog 87 4 := ⟨by kernel_rfl, by kernel_rfl⟩
instance : TSize Tryz.prog 87 4 := ⟨by kernel_rfl⟩
instance : TZero Tryz.prog 87 ([.int .u8 0, .int .i64 0, .int .u64 0, .slice none 0 0]) := ⟨by kernel_rfl⟩
instance : TElem Tryz.prog 87 4 48 ([.int .u8 0, .int .i64 0, .int .u64 0, .slice none 0 0]) := ⟨by kernel_rfl, by kernel_rfl⟩
instance : TPlaces Tryz.prog 87 [(0, 1), (1, 1), (2, 1), (3, 1)] := ⟨by kernel_rfl⟩
instance : TField Tryz.prog 87 0 0 := ⟨_, _, Tryz.underlying87, rfl, rfl, by kernel_rfl⟩
instance : TField Tryz.prog 87 1 1 := ⟨_, _, Tryz.underlying87, rfl, rfl, by kernel_rfl⟩
instance : TField Tryz.prog 87 2 2 := ⟨_, _, Tryz.underlying87, rfl, rfl, by kernel_rfl⟩
instance : TField Tryz.prog 87 3 3 := ⟨_, _, Tryz.underlying87, rfl, rfl, by kernel_rfl⟩
instance : TAgg Tryz.prog 88 4 := ⟨by kernel_rfl, by kernel_rfl⟩
instance : TSize Tryz.prog 88 4 := ⟨by kernel_rfl⟩
instance : TZero Tryz.prog 88 ([.int .u8 0, .int .i64 0, .int .u64 0, .slice none 0 0]) := ⟨by kernel_rfl⟩
instance : TElem Tryz.prog 88 4 48 ([.int .u8 0, .int .i64 0, .int .u64 0, .slice none 0 0]) := ⟨by kernel_rfl, by kernel_rfl⟩
instance : TPlaces Tryz.prog 88 [(0, 1), (1, 1), (2, 1), (3, 1)] := ⟨by kernel_rfl⟩
instance : TField Tryz.prog 88 0 0 := ⟨_, _, Tryz.underlying88, rfl, rfl, by kernel_rfl⟩
instance : TField Tryz.prog 88 1 1 := ⟨_, _, Tryz.underlying88, rfl, rfl, by kernel_rfl⟩
instance : TField Tryz.prog 88 2 2 := ⟨_, _, Tryz.underlying88, rfl, rfl, by kernel_rfl⟩
instance : TField Tryz.prog 88 3 3 := ⟨_, _, Tryz.underlying88, rfl, rfl, by kernel_rfl⟩
instance : TPlain Tryz.prog 90 := ⟨by kernel_rfl⟩
instance : TSize Tryz.prog 90 1 := ⟨by kernel_rfl⟩
instance : TPlain Tryz.prog 91 := ⟨by kernel_rfl⟩
instance : TSize Tryz.prog 91 1 := ⟨by kernel_rfl⟩
instance : TPlain Tryz.prog 92 := ⟨by kernel_rfl⟩
instance : TSize Tryz.prog 92 1 := ⟨by kernel_rfl⟩
instance : TPlain Tryz.prog 93 := ⟨by kernel_rfl⟩
instance : TSize Tryz.prog 93 1 := ⟨by kernel_rfl⟩
instance : TPlain Tryz.prog 94 := ⟨by kernel_rfl⟩
instance : TSize Tryz.prog 94 1 := ⟨by kernel_rfl⟩
instance : TZero Tryz.prog 94 ([.slice none 0 0]) := ⟨by kernel_rfl⟩
instance : TElem Tryz.prog 94 1 24 ([.slice none 0 0]) := ⟨by kernel_rfl, by kernel_rfl⟩
instance : TSlice Tryz.prog 94 102 := ⟨Tryz.underlying94⟩
instance : TPlain Tryz.prog 96 := ⟨by kernel_rfl⟩
instance : TSize Tryz.prog 96 1 := ⟨by kernel_rfl⟩
instance : TPlain Tryz.prog 97 := ⟨by kernel_rfl⟩
instance : TSize Tryz.prog 97 1 := ⟨by kernel_rfl⟩
instance : TPlain Tryz.prog 98 := ⟨by kernel_rfl⟩
instance : TSize Tryz.prog 98 1 := ⟨by kernel_rfl⟩
instance : TPlain Tryz.prog 99 := ⟨by kernel_rfl⟩
instance : TSize Tryz.prog 99 1 := ⟨by kernel_rfl⟩
instance : TPlain Tryz.prog 100 := ⟨by kernel_rfl⟩
instance : TSize Tryz.prog 100 1 := ⟨by kernel_rfl⟩
instance : TZero Tryz.prog 100 ([.slice none 0 0]) := ⟨by kernel_rfl⟩
instance : TElem Tryz.prog 100 1 24 ([.slice none 0 0]) := ⟨by kernel_rfl, by kernel_rfl⟩
instance : TSlice Tryz.prog 100 105 := ⟨Tryz.underlying100⟩
instance : TAgg Tryz.prog 101 4 := ⟨by kernel_rfl, by kernel_rfl⟩
instance : TSize Tryz.prog 101 4 := ⟨by kernel_rfl⟩
instance : TZero Tryz.prog 101 ([.int .i64 0, .int .i64 0, .int .i64 0, .string ⟨#[]⟩]) := ⟨by kernel_rfl⟩
instance : TElem Tryz.prog 101 4 40 ([.int .i64 0, .int .i64 0, .int .i64 0, .string ⟨#[]⟩]) := ⟨by kernel_rfl, by kernel_rfl⟩
instance : TPlaces Tryz.prog 101 [(0, 1), (1, 1), (2, 1), (3, 1)] := ⟨by kernel_rfl⟩
instance : TField Tryz.prog 101 0 0 := ⟨_, _, Tryz.underlying101, rfl, rfl, by kernel_rfl⟩
instance : TField Tryz.prog 101 1 1 := ⟨_, _, Tryz.underlying101, rfl, rfl, by kernel_rfl⟩
instance : TField Tryz.prog 101 2 2 := ⟨_, _, Tryz.underlying101, rfl, rfl, by kernel_rfl⟩
instance : TField Tryz.prog 101 3 3 := ⟨_, _, Tryz.underlying101, rfl, rfl, by kernel_rfl⟩
instance : TEq Tryz.prog 101 ([.int .i64 0, .int .i64 0, .int .i64 0, .string ⟨#[]⟩]) := ⟨by kernel_rfl, by kernel_rfl, by kernel_rfl⟩
instance : TAgg Tryz.prog 102 4 := ⟨by kernel_rfl, by kernel_rfl⟩
instance : TSize Tryz.prog 102 4 := ⟨by kernel_rfl⟩
instance : TZero Tryz.prog 102 ([.int .i64 0, .int .i64 0, .int .i64 0, .string ⟨#[]⟩]) := ⟨by kernel_rfl⟩
instance : TElem Tryz.prog 102 4 40 ([.int .i64 0, .int .i64 0, .int .i64 0, .string ⟨#[]⟩]) := ⟨by kernel_rfl, by kernel_rfl⟩
instance : TPlaces Tryz.prog 102 [(0, 1), (1, 1), (2, 1), (3, 1)] := ⟨by kernel_rfl⟩
instance : TField Tryz.prog 102 0 0 := ⟨_, _, Tryz.underlying102, rfl, rfl, by kernel_rfl⟩
instance : TField Tryz.prog 102 1 1 := ⟨_, _, Tryz.underlying102, rfl, rfl, by kernel_rfl⟩
instance : TField Tryz.prog 102 2 2 := ⟨_, _, Tryz.underlying102, rfl, rfl, by kernel_rfl⟩
instance : TField Tryz.prog 102 3 3 := ⟨_, _, Tryz.underlying102, rfl, rfl, by kernel_rfl⟩
instance : TEq Tryz.prog 102 ([.int .i64 0, .int .i64 0, .int .i64 0, .string ⟨#[]⟩]) := ⟨by kernel_rfl, by kernel_rfl, by kernel_rfl⟩
instance : TPlain Tryz.prog 103 := ⟨by kernel_rfl⟩
instance : TSize Tryz.prog 103 1 := ⟨by kernel_rfl⟩
instance : TZero Tryz.prog 103 ([.slice none 0 0]) := ⟨by kernel_rfl⟩
instance : TElem Tryz.prog 103 1 24 ([.slice none 0 0]) := ⟨by kernel_rfl, by kernel_rfl⟩
instance : TSlice Tryz.prog 103 4 := ⟨Tryz.underlying103⟩
instance : TAgg Tryz.prog 104 7 := ⟨by kernel_rfl, by kernel_rfl⟩
instance : TSize Tryz.prog 104 7 := ⟨by kernel_rfl⟩
instance : TZero Tryz.prog 104 ([.int .i64 0, .int .i64 0, .int .i64 0, .int .i64 0, .int .i64 0, .slice none 0 0, .slice none 0 0]) := ⟨by kernel_rfl⟩
instance : TElem Tryz.prog 104 7 88 ([.int .i64 0, .int .i64 0, .int .i64 0, .int .i64 0, .int .i64 0, .slice none 0 0, .slice none 0 0]) := ⟨by kernel_rfl, by kernel_rfl⟩
instance : TPlaces Tryz.prog 104 [(0, 1), (1, 1), (2, 1), (3, 1), (4, 1), (5, 1), (6, 1)] := ⟨by kernel_rfl⟩
instance : TField Tryz.prog 104 0 0 := ⟨_, _, Tryz.underlying104, rfl, rfl, by kernel_rfl⟩
instance : TField Tryz.prog 104 1 1 := ⟨_, _, Tryz.underlying104, rfl, rfl, by kernel_rfl⟩
instance : TField Tryz.prog 104 2 2 := ⟨_, _, Tryz.underlying104, rfl, rfl, by kernel_rfl⟩
instance : TField Tryz.prog 104 3 3 := ⟨_, _, Tryz.underlying104, rfl, rfl, by kernel_rfl⟩
instance : TField Tryz.prog 104 4 4 := ⟨_, _, Tryz.underlying104, rfl, rfl, by kernel_rfl⟩
instance : TField Tryz.prog 104 5 5 := ⟨_, _, Tryz.underlying104, rfl, rfl, by kernel_rfl⟩
instance : TField Tryz.prog 104 6 6 := ⟨_, _, Tryz.underlying104, rfl, rfl, by kernel_rfl⟩
instance : TAgg Tryz.prog 105 7 := ⟨by kernel_rfl, by kernel_rfl⟩
instance : TSize Tryz.prog 105 7 := ⟨by kernel_rfl⟩
instance : TZero Tryz.prog 105 ([.int .i64 0, .int .i64 0, .int .i64 0, .int .i64 0, .int .i64 0, .slice none 0 0, .slice none 0 0]) := ⟨by kernel_rfl⟩
instance : TElem Tryz.prog 105 7 88 ([.int .i64 0, .int .i64 0, .int .i64 0, .int .i64 0, .int .i64 0, .slice none 0 0, .slice none 0 0]) := ⟨by kernel_rfl, by kernel_rfl⟩
instance : TPlaces Tryz.prog 105 [(0, 1), (1, 1), (2, 1), (3, 1), (4, 1), (5, 1), (6, 1)] := ⟨by kernel_rfl⟩
instance : TField Tryz.prog 105 0 0 := ⟨_, _, Tryz.underlying105, rfl, rfl, by kernel_rfl⟩
instance : TField Tryz.prog 105 1 1 := ⟨_, _, Tryz.underlying105, rfl, rfl, by kernel_rfl⟩
instance : TField Tryz.prog 105 2 2 := ⟨_, _, Tryz.underlying105, rfl, rfl, by kernel_rfl⟩
instance : TField Tryz.prog 105 3 3 := ⟨_, _, Tryz.underlying105, rfl, rfl, by kernel_rfl⟩
instance : TField Tryz.prog 105 4 4 := ⟨_, _, Tryz.underlying105, rfl, rfl, by kernel_rfl⟩
instance : TField Tryz.prog 105 5 5 := ⟨_, _, Tryz.underlying105, rfl, rfl, by kernel_rfl⟩
instance : TField Tryz.prog 105 6 6 := ⟨_, _, Tryz.underlying105, rfl, rfl, by kernel_rfl⟩
instance : TPlain Tryz.prog 106 := ⟨by kernel_rfl⟩
instance : TSize Tryz.prog 106 1 := ⟨by kernel_rfl⟩
instance : TPlain Tryz.prog 107 := ⟨by kernel_rfl⟩
instance : TSize Tryz.prog 107 1 := ⟨by kernel_rfl⟩
instance : TPlain Tryz.prog 108 := ⟨by kernel_rfl⟩
instance : TSize Tryz.prog 108 1 := ⟨by kernel_rfl⟩
instance : TPlain Tryz.prog 109 := ⟨by kernel_rfl⟩
instance : TSize Tryz.prog 109 1 := ⟨by kernel_rfl⟩
instance : TZero Tryz.prog 109 ([.slice none 0 0]) := ⟨by kernel_rfl⟩
instance : TElem Tryz.prog 109 1 24 ([.slice none 0 0]) := ⟨by kernel_rfl, by kernel_rfl⟩
instance : TSlice Tryz.prog 109 189 := ⟨Tryz.underlying109⟩
instance : TPlain Tryz.prog 110 := ⟨by kernel_rfl⟩
instance : TSize Tryz.prog 110 1 := ⟨by kernel_rfl⟩
instance : TPlain Tryz.prog 111 := ⟨by kernel_rfl⟩
instance : TSize Tryz.prog 111 1 := ⟨by kernel_rfl⟩
instance : TPlain Tryz.prog 113 := ⟨by kernel_rfl⟩
instance : TSize Tryz.prog 113 1 := ⟨by kernel_rfl⟩
instance : TPlain Tryz.prog 114 := ⟨by kernel_rfl⟩
instance : TSize Tryz.prog 114 1 := ⟨by kernel_rfl⟩
instance : TPlain Tryz.prog 116 := ⟨by kernel_rfl⟩
instance : TSize Tryz.prog 116 1 := ⟨by kernel_rfl⟩
instance : TPlain Tryz.prog 117 := ⟨by kernel_rfl⟩
instance : TSize Tryz.prog 117 1 := ⟨by kernel_rfl⟩
instance : TPlain Tryz.prog 118 := ⟨by kernel_rfl⟩
instance : TSize Tryz.prog 118 1 := ⟨by kernel_rfl⟩
instance : TPlain Tryz.prog 119 := ⟨by kernel_rfl⟩
instance : TSize Tryz.prog 119 1 := ⟨by kernel_rfl⟩
instance : TPlain Tryz.prog 120 := ⟨by kernel_rfl⟩
instance : TSize Tryz.prog 120 1 := ⟨by kernel_rfl⟩
instance : TPlain Tryz.prog 121 := ⟨by kernel_rfl⟩
instance : TSize Tryz.prog 121 1 := ⟨by kernel_rfl⟩
instance : TPlain Tryz.prog 122 := ⟨by kernel_rfl⟩
instance : TSize Tryz.prog 122 1 := ⟨by kernel_rfl⟩
instance : TPlain Tryz.prog 123 := ⟨by kernel_rfl⟩
instance : TSize Tryz.prog 123 1 := ⟨by kernel_rfl⟩
instance : TZero Tryz.prog 123 ([.slice none 0 0]) := ⟨by kernel_rfl⟩
instance : TElem Tryz.prog 123 1 24 ([.slice none 0 0]) := ⟨by kernel_rfl, by kernel_rfl⟩
instance : TSlice Tryz.prog 123 38 := ⟨Tryz.underlying123⟩
instance : TAgg Tryz.prog 124 4 := ⟨by kernel_rfl, by kernel_rfl⟩
instance : TSize Tryz.prog 124 4 := ⟨by kernel_rfl⟩
instance : TZero Tryz.prog 124 ([.bool false, .slice none 0 0, .slice none 0 0, .slice none 0 0]) := ⟨by kernel_rfl⟩
instance : TElem Tryz.prog 124 4 80 ([.bool false, .slice none 0 0, .slice none 0 0, .slice none 0 0]) := ⟨by kernel_rfl, by kernel_rfl⟩
instance : TPlaces Tryz.prog 124 [(0, 1), (1, 1), (2, 1), (3, 1)] := ⟨by kernel_rfl⟩
instance : TField Tryz.prog 124 0 0 := ⟨_, _, Tryz.underlying124, rfl, rfl, by kernel_rfl⟩
instance : TField Tryz.prog 124 1 1 := ⟨_, _, Tryz.underlying124, rfl, rfl, by kernel_rfl⟩
instance : TField Tryz.prog 124 2 2 := ⟨_, _, Tryz.underlying124, rfl, rfl, by kernel_rfl⟩
instance : TField Tryz.prog 124 3 3 := ⟨_, _, Tryz.underlying124, rfl, rfl, by kernel_rfl⟩
instance : TAgg Tryz.prog 125 4 := ⟨by kernel_rfl, by kernel_rfl⟩
instance : TSize Tryz.prog 125 4 := ⟨by kernel_rfl⟩
instance : TZero Tryz.prog 125 ([.bool false, .slice none 0 0, .slice none 0 0, .slice none 0 0]) := ⟨by kernel_rfl⟩
instance : TElem Tryz.prog 125 4 80 ([.bool false, .slice none 0 0, .slice none 0 0, .slice none 0 0]) := ⟨by kernel_rfl, by kernel_rfl⟩
instance : TPlaces Tryz.prog 125 [(0, 1), (1, 1), (2, 1), (3, 1)] := ⟨by kernel_rfl⟩
instance : TField Tryz.prog 125 0 0 := ⟨_, _, Tryz.underlying125, rfl, rfl, by kernel_rfl⟩
instance : TField Tryz.prog 125 1 1 := ⟨_, _, Tryz.underlying125, rfl, rfl, by kernel_rfl⟩
instance : TField Tryz.prog 125 2 2 := ⟨_, _, Tryz.underlying125, rfl, rfl, by kernel_rfl⟩
instance : TField Tryz.prog 125 3 3 := ⟨_, _, Tryz.underlying125, rfl, rfl, by kernel_rfl⟩
instance : TPlain Tryz.prog 126 := ⟨by kernel_rfl⟩
instance : TSize Tryz.prog 126 1 := ⟨by kernel_rfl⟩
instance : TPlain Tryz.prog 127 := ⟨by kernel_rfl⟩
instance : TSize Tryz.prog 127 1 := ⟨by kernel_rfl⟩
instance : TPlain Tryz.prog 128 := ⟨by kernel_rfl⟩
instance : TSize Tryz.prog 128 1 := ⟨by kernel_rfl⟩
instance : TZero Tryz.prog 128 ([.slice none 0 0]) := ⟨by kernel_rfl⟩
instance : TElem Tryz.prog 128 1 24 ([.slice none 0 0]) := ⟨by kernel_rfl, by kernel_rfl⟩
instance : TSlice Tryz.prog 128 125 := ⟨Tryz.underlying128⟩
instance : TPlain Tryz.prog 129 := ⟨by kernel_rfl⟩
instance : TSize Tryz.prog 129 1 := ⟨by kernel_rfl⟩
instance : TPlain Tryz.prog 130 := ⟨by kernel_rfl⟩
instance : TSize Tryz.prog 130 1 := ⟨by kernel_rfl⟩
instance : TPlain Tryz.prog 131 := ⟨by kernel_rfl⟩
instance : TSize Tryz.prog 131 1 := ⟨by kernel_rfl⟩
instance : TPlain Tryz.prog 132 := ⟨by kernel_rfl⟩
instance : TSize Tryz.prog 132 1 := ⟨by kernel_rfl⟩
instance : TPlain Tryz.prog 133 := ⟨by kernel_rfl⟩
instance : TSize Tryz.prog 133 1 := ⟨by kernel_rfl⟩
instance : TPlain Tryz.prog 134 := ⟨by kernel_rfl⟩
instance : TSize Tryz.prog 134 1 := ⟨by kernel_rfl⟩
instance : TPlain Tryz.prog 135 := ⟨by kernel_rfl⟩
instance : TSize Tryz.prog 135 1 := ⟨by kernel_rfl⟩
instance : TPlain Tryz.prog 136 := ⟨by kernel_rfl⟩
instance : TSize Tryz.prog 136 1 := ⟨by kernel_rfl⟩
instance : TPlain Tryz.prog 137 := ⟨by kernel_rfl⟩
instance : TSize Tryz.prog 137 1 := ⟨by kernel_rfl⟩
instance : TPlain Tryz.prog 139 := ⟨by kernel_rfl⟩
instance : TSize Tryz.prog 139 1 := ⟨by kernel_rfl⟩
instance : TPlain Tryz.prog 140 := ⟨by kernel_rfl⟩
instance : TSize Tryz.prog 140 1 := ⟨by kernel_rfl⟩
instance : TPlain Tryz.prog 141 := ⟨by kernel_rfl⟩
instance : TSize Tryz.prog 141 1 := ⟨by kernel_rfl⟩
instance : TPlain Tryz.prog 142 := ⟨by kernel_rfl⟩
instance : TSize Tryz.prog 142 1 := ⟨by kernel_rfl⟩
instance : TPlain Tryz.prog 143 := ⟨by kernel_rfl⟩
instance : TSize Tryz.prog 143 1 := ⟨by kernel_rfl⟩
instance : TPlain Tryz.prog 144 := ⟨by kernel_rfl⟩
instance : TSize Tryz.prog 144 1 := ⟨by kernel_rfl⟩
instance : TAgg Tryz.prog 145 1284 := ⟨by kernel_rfl, by kernel_rfl⟩
instance : TSize Tryz.prog 145 1284 := ⟨by kernel_rfl⟩
instance : TZero Tryz.prog 145 (List.replicate 256 (.int .u32 0) ++ ([.pointer none, .int .u64 0, .int .i64 0] ++ (List.replicate 512 (.bool false) ++ ([.int .i64 0] ++ (List.replicate 512 (.bool false)))))) := ⟨by kernel_rfl⟩
instance : TElem Tryz.prog 145 1284 2080 (List.replicate 256 (.int .u32 0) ++ ([.pointer none, .int .u64 0, .int .i64 0] ++ (List.replicate 512 (.bool false) ++ ([.int .i64 0] ++ (List.replicate 512 (.bool false)))))) := ⟨by kernel_rfl, by kernel_rfl⟩
instance : TPlaces Tryz.prog 145 [(0, 256), (256, 1), (257, 1), (258, 513), (771, 513)] := ⟨by kernel_rfl⟩
instance : TField Tryz.prog 145 0 0 := ⟨_, _, Tryz.underlying145, rfl, rfl, by kernel_rfl⟩
instance : TField Tryz.prog 145 1 256 := ⟨_, _, Tryz.underlying145, rfl, rfl, by kernel_rfl⟩
instance : TField Tryz.prog 145 2 257 := ⟨_, _, Tryz.underlying145, rfl, rfl, by kernel_rfl⟩
instance : TField Tryz.prog 145 3 258 := ⟨_, _, Tryz.underlying145, rfl, rfl, by kernel_rfl⟩
instance : TField Tryz.prog 145 4 771 := ⟨_, _, Tryz.underlying145, rfl, rfl, by kernel_rfl⟩
instance : TAgg Tryz.prog 146 1284 := ⟨by kernel_rfl, by kernel_rfl⟩
instance : TSize Tryz.prog 146 1284 := ⟨by kernel_rfl⟩
instance : TZero Tryz.prog 146 (List.replicate 256 (.int .u32 0) ++ ([.pointer none, .int .u64 0, .int .i64 0] ++ (List.replicate 512 (.bool false) ++ ([.int .i64 0] ++ (List.replicate 512 (.bool false)))))) := ⟨by kernel_rfl⟩
instance : TElem Tryz.prog 146 1284 2080 (List.replicate 256 (.int .u32 0) ++ ([.pointer none, .int .u64 0, .int .i64 0] ++ (List.replicate 512 (.bool false) ++ ([.int .i64 0] ++ (List.replicate 512 (.bool false)))))) := ⟨by kernel_rfl, by kernel_rfl⟩
instance : TPlaces Tryz.prog 146 [(0, 256), (256, 1), (257, 1), (258, 513), (771, 513)] := ⟨by kernel_rfl⟩
instance : TField Tryz.prog 146 0 0 := ⟨_, _, Tryz.underlying146, rfl, rfl, by kernel_rfl⟩
instance : TField Tryz.prog 146 1 256 := ⟨_, _, Tryz.underlying146, rfl, rfl, by kernel_rfl⟩
instance : TField Tryz.prog 146 2 257 := ⟨_, _, Tryz.underlying146, rfl, rfl, by kernel_rfl⟩
instance : TField Tryz.prog 146 3 258 := ⟨_, _, Tryz.underlying146, rfl, rfl, by kernel_rfl⟩
instance : TField Tryz.prog 146 4 771 := ⟨_, _, Tryz.underlying146, rfl, rfl, by kernel_rfl⟩
instance : TPlain Tryz.prog 148 := ⟨by kernel_rfl⟩
instance : TSize Tryz.prog 148 1 := ⟨by kernel_rfl⟩
instance : TPlain Tryz.prog 149 := ⟨by kernel_rfl⟩
instance : TSize Tryz.prog 149 1 := ⟨by kernel_rfl⟩
instance : TPlain Tryz.prog 150 := ⟨by kernel_rfl⟩
instance : TSize Tryz.prog 150 1 := ⟨by kernel_rfl⟩
instance : TZero Tryz.prog 150 ([.int .u64 0]) := ⟨by kernel_rfl⟩
instance : TElem Tryz.prog 150 1 8 ([.int .u64 0]) := ⟨by kernel_rfl, by kernel_rfl⟩
instance : TInt Tryz.prog 150 .u64 := ⟨Tryz.underlying150⟩
instance : TPlain Tryz.prog 151 := ⟨by kernel_rfl⟩
instance : TSize Tryz.prog 151 1 := ⟨by kernel_rfl⟩
instance : TZero Tryz.prog 151 ([.slice none 0 0]) := ⟨by kernel_rfl⟩
instance : TElem Tryz.prog 151 1 24 ([.slice none 0 0]) := ⟨by kernel_rfl, by kernel_rfl⟩
instance : TSlice Tryz.prog 151 186 := ⟨Tryz.underlying151⟩
instance : TAgg Tryz.prog 152 4 := ⟨by kernel_rfl, by kernel_rfl⟩
instance : TSize Tryz.prog 152 4 := ⟨by kernel_rfl⟩
instance : TZero Tryz.prog 152 ([.slice none 0 0, .slice none 0 0, .bool false, .int .i64 0]) := ⟨by kernel_rfl⟩
instance : TElem Tryz.prog 152 4 64 ([.slice none 0 0, .slice none 0 0, .bool false, .int .i64 0]) := ⟨by kernel_rfl, by kernel_rfl⟩
instance : TPlaces Tryz.prog 152 [(0, 1), (1, 1), (2, 1), (3, 1)] := ⟨by kernel_rfl⟩
instance : TField Tryz.prog 152 0 0 := ⟨_, _, Tryz.underlying152, rfl, rfl, by kernel_rfl⟩
instance : TField Tryz.prog 152 1 1 := ⟨_, _, Tryz.underlying152, rfl, rfl, by kernel_rfl⟩
instance : TField Tryz.prog 152 2 2 := ⟨_, _, Tryz.underlying152, rfl, rfl, by kernel_rfl⟩
instance : TField Tryz.prog 152 3 3 := ⟨_, _, Tryz.underlying152, rfl, rfl, by kernel_rfl⟩
instance : TAgg Tryz.prog 153 4 := ⟨by kernel_rfl, by kernel_rfl⟩
instance : TSize Tryz.prog 153 4 := ⟨by kernel_rfl⟩
instance : TZero Tryz.prog 153 ([.slice none 0 0, .slice none 0 0, .bool false, .int .i64 0]) := ⟨by kernel_rfl⟩
instance : TElem Tryz.prog 153 4 64 ([.slice none 0 0, .slice none 0 0, .bool false, .int .i64 0]) := ⟨by kernel_rfl, by kernel_rfl⟩
instance : TPlaces Tryz.prog 153 [(0, 1), (1, 1), (2, 1), (3, 1)] := ⟨by kernel_rfl⟩
instance : TField Tryz.prog 153 0 0 := ⟨_, _, Tryz.underlying153, rfl, rfl, by kernel_rfl⟩
instance : TField Tryz.prog 153 1 1 := ⟨_, _, Tryz.underlying153, rfl, rfl, by kernel_rfl⟩
instance : TField Tryz.prog 153 2 2 := ⟨_, _, Tryz.underlying153, rfl, rfl, by kernel_rfl⟩
instance : TField Tryz.prog 153 3 3 := ⟨_, _, Tryz.underlying153, rfl, rfl, by kernel_rfl⟩
instance : TPlain Tryz.prog 155 := ⟨by kernel_rfl⟩
instance : TSize Tryz.prog 155 1 := ⟨by kernel_rfl⟩
instance : TPlain Tryz.prog 156 := ⟨by kernel_rfl⟩
instance : TSize Tryz.prog 156 1 := ⟨by kernel_rfl⟩
instance : TPlain Tryz.prog 157 := ⟨by kernel_rfl⟩
instance : TSize Tryz.prog 157 1 := ⟨by kernel_rfl⟩
instance : TPlain Tryz.prog 158 := ⟨by kernel_rfl⟩
instance : TSize Tryz.prog 158 1 := ⟨by kernel_rfl⟩
instance : TPlain Tryz.prog 159 := ⟨by kernel_rfl⟩
instance : TSize Tryz.prog 159 1 := ⟨by kernel_rfl⟩
instance : TAgg Tryz.prog 160 778 := ⟨by kernel_rfl, by kernel_rfl⟩
instance : TSize Tryz.prog 160 778 := ⟨by kernel_rfl⟩
instance : TZero Tryz.prog 160 (List.replicate 256 (.int .u32 0) ++ ([.pointer none, .int .u64 0, .int .i64 0, .int .i64 0, .int .i64 0, .int .i64 0, .int .i64 0] ++ (List.replicate 512 (.bool false) ++ ([.pointer none, .bool false, .bool false])))) := ⟨by kernel_rfl⟩
instance : TElem Tryz.prog 160 778 1608 (List.replicate 256 (.int .u32 0) ++ ([.pointer none, .int .u64 0, .int .i64 0, .int .i64 0, .int .i64 0, .int .i64 0, .int .i64 0] ++ (List.replicate 512 (.bool false) ++ ([.pointer none, .bool false, .bool false])))) := ⟨by kernel_rfl, by kernel_rfl⟩
instance : TPlaces Tryz.prog 160 [(0, 256), (256, 1), (257, 5), (262, 513), (775, 1), (776, 1), (777, 1)] := ⟨by kernel_rfl⟩
instance : TField Tryz.prog 160 0 0 := ⟨_, _, Tryz.underlying160, rfl, rfl, by kernel_rfl⟩
instance : TField Tryz.prog 160 1 256 := ⟨_, _, Tryz.underlying160, rfl, rfl, by kernel_rfl⟩
instance : TField Tryz.prog 160 2 257 := ⟨_, _, Tryz.underlying160, rfl, rfl, by kernel_rfl⟩
instance : TField Tryz.prog 160 3 262 := ⟨_, _, Tryz.underlying160, rfl, rfl, by kernel_rfl⟩
instance : TField Tryz.prog 160 4 775 := ⟨_, _, Tryz.underlying160, rfl, rfl, by kernel_rfl⟩
instance : TField Tryz.prog 160 5 776 := ⟨_, _, Tryz.underlying160, rfl, rfl, by kernel_rfl⟩
instance : TField Tryz.prog 160 6 777 := ⟨_, _, Tryz.underlying160, rfl, rfl, by kernel_rfl⟩
instance : TAgg Tryz.prog 161 778 := ⟨by kernel_rfl, by kernel_rfl⟩
instance : TSize Tryz.prog 161 778 := ⟨by kernel_rfl⟩
instance : TZero Tryz.prog 161 (List.replicate 256 (.int .u32 0) ++ ([.pointer none, .int .u64 0, .int .i64 0, .int .i64 0, .int .i64 0, .int .i64 0, .int .i64 0] ++ (List.replicate 512 (.bool false) ++ ([.pointer none, .bool false, .bool false])))) := ⟨by kernel_rfl⟩
instance : TElem Tryz.prog 161 778 1608 (List.replicate 256 (.int .u32 0) ++ ([.pointer none, .int .u64 0, .int .i64 0, .int .i64 0, .int .i64 0, .int .i64 0, .int .i64 0] ++ (List.replicate 512 (.bool false) ++ ([.pointer none, .bool false, .bool false])))) := ⟨by kernel_rfl, by kernel_rfl⟩
instance : TPlaces Tryz.prog 161 [(0, 256), (256, 1), (257, 5), (262, 513), (775, 1), (776, 1), (777, 1)] := ⟨by kernel_rfl⟩
instance : TField Tryz.prog 161 0 0 := ⟨_, _, Tryz.underlying161, rfl, rfl, by kernel_rfl⟩
instance : TField Tryz.prog 161 1 256 := ⟨_, _, Tryz.underlying161, rfl, rfl, by kernel_rfl⟩
instance : TField Tryz.prog 161 2 257 := ⟨_, _, Tryz.underlying161, rfl, rfl, by kernel_rfl⟩
instance : TField Tryz.prog 161 3 262 := ⟨_, _, Tryz.underlying161, rfl, rfl, by kernel_rfl⟩
instance : TField Tryz.prog 161 4 775 := ⟨_, _, Tryz.underlying161, rfl, rfl, by kernel_rfl⟩
instance : TField Tryz.prog 161 5 776 := ⟨_, _, Tryz.underlying161, rfl, rfl, by kernel_rfl⟩
instance : TField Tryz.prog 161 6 777 := ⟨_, _, Tryz.underlying161, rfl, rfl, by kernel_rfl⟩
instance : TAgg Tryz.prog 162 5 := ⟨by kernel_rfl, by kernel_rfl⟩
instance : TSize Tryz.prog 162 5 := ⟨by kernel_rfl⟩
instance : TZero Tryz.prog 162 ([.pointer none, .pointer none, .int .i64 0, .int .i64 0, .bool false]) := ⟨by kernel_rfl⟩
instance : TElem Tryz.prog 162 5 40 ([.pointer none, .pointer none, .int .i64 0, .int .i64 0, .bool false]) := ⟨by kernel_rfl, by kernel_rfl⟩
instance : TPlaces Tryz.prog 162 [(0, 1), (1, 1), (2, 2), (4, 1)] := ⟨by kernel_rfl⟩
instance : TField Tryz.prog 162 0 0 := ⟨_, _, Tryz.underlying162, rfl, rfl, by kernel_rfl⟩
instance : TField Tryz.prog 162 1 1 := ⟨_, _, Tryz.underlying162, rfl, rfl, by kernel_rfl⟩
instance : TField Tryz.prog 162 2 2 := ⟨_, _, Tryz.underlying162, rfl, rfl, by kernel_rfl⟩
instance : TField Tryz.prog 162 3 4 := ⟨_, _, Tryz.underlying162, rfl, rfl, by kernel_rfl⟩
instance : TAgg Tryz.prog 163 5 := ⟨by kernel_rfl, by kernel_rfl⟩
instance : TSize Tryz.prog 163 5 := ⟨by kernel_rfl⟩
instance : TZero Tryz.prog 163 ([.pointer none, .pointer none, .int .i64 0, .int .i64 0, .bool false]) := ⟨by kernel_rfl⟩
instance : TElem Tryz.prog 163 5 40 ([.pointer none, .pointer none, .int .i64 0, .int .i64 0, .bool false]) := ⟨by kernel_rfl, by kernel_rfl⟩
instance : TPlaces Tryz.prog 163 [(0, 1), (1, 1), (2, 2), (4, 1)] := ⟨by kernel_rfl⟩
instance : TField Tryz.prog 163 0 0 := ⟨_, _, Tryz.underlying163, rfl, rfl, by kernel_rfl⟩
instance : TField Tryz.prog 163 1 1 := ⟨_, _, Tryz.underlying163, rfl, rfl, by kernel_rfl⟩
instance : TField Tryz.prog 163 2 2 := ⟨_, _, Tryz.underlying163, rfl, rfl, by kernel_rfl⟩
instance : TField Tryz.prog 163 3 4 := ⟨_, _, Tryz.underlying163, rfl, rfl, by kernel_rfl⟩
instance : TPlain Tryz.prog 165 := ⟨by kernel_rfl⟩
instance : TSize Tryz.prog 165 1 := ⟨by kernel_rfl⟩
instance : TPlain Tryz.prog 166 := ⟨by kernel_rfl⟩
instance : TSize Tryz.prog 166 1 := ⟨by kernel_rfl⟩
instance : TPlain Tryz.prog 168 := ⟨by kernel_rfl⟩
instance : TSize Tryz.prog 168 1 := ⟨by kernel_rfl⟩
instance : TPlain Tryz.prog 169 := ⟨by kernel_rfl⟩
instance : TSize Tryz.prog 169 1 := ⟨by kernel_rfl⟩
instance : TPlain Tryz.prog 171 := ⟨by kernel_rfl⟩
instance : TSize Tryz.prog 171 1 := ⟨by kernel_rfl⟩
instance : TAgg Tryz.prog 172 4 := ⟨by kernel_rfl, by kernel_rfl⟩
instance : TSize Tryz.prog 172 4 := ⟨by kernel_rfl⟩
instance : TZero Tryz.prog 172 ([.int .u8 0, .int .i64 0, .int .u64 0, .slice none 0 0]) := ⟨by kernel_rfl⟩
instance : TElem Tryz.prog 172 4 48 ([.int .u8 0, .int .i64 0, .int .u64 0, .slice none 0 0]) := ⟨by kernel_rfl, by kernel_rfl⟩
instance : TPlaces Tryz.prog 172 [(0, 1), (1, 1), (2, 1), (3, 1)] := ⟨by kernel_rfl⟩
instance : TField Tryz.prog 172 0 0 := ⟨_, _, Tryz.underlying172, rfl, rfl, by kernel_rfl⟩
instance : TField Tryz.prog 172 1 1 := ⟨_, _, Tryz.underlying172, rfl, rfl, by kernel_rfl⟩
instance : TField Tryz.prog 172 2 2 := ⟨_, _, Tryz.underlying172, rfl, rfl, by kernel_rfl⟩
instance : TField Tryz.prog 172 3 3 := ⟨_, _, Tryz.underlying172, rfl, rfl, by kernel_rfl⟩
instance : TPlain Tryz.prog 174 := ⟨by kernel_rfl⟩
instance : TSize Tryz.prog 174 1 := ⟨by kernel_rfl⟩
instance : TPlain Tryz.prog 175 := ⟨by kernel_rfl⟩
instance : TSize Tryz.prog 175 1 := ⟨by kernel_rfl⟩
instance : TPlain Tryz.prog 176 := ⟨by kernel_rfl⟩
instance : TSize Tryz.prog 176 1 := ⟨by kernel_rfl⟩
instance : TPlain Tryz.prog 177 := ⟨by kernel_rfl⟩
instance : TSize Tryz.prog 177 1 := ⟨by kernel_rfl⟩
instance : TPlain Tryz.prog 178 := ⟨by kernel_rfl⟩
instance : TSize Tryz.prog 178 1 := ⟨by kernel_rfl⟩
instance : TPlain Tryz.prog 179 := ⟨by kernel_rfl⟩
instance : TSize Tryz.prog 179 1 := ⟨by kernel_rfl⟩
instance : TPlain Tryz.prog 180 := ⟨by kernel_rfl⟩
instance : TSize Tryz.prog 180 1 := ⟨by kernel_rfl⟩
instance : TPlain Tryz.prog 181 := ⟨by kernel_rfl⟩
instance : TSize Tryz.prog 181 1 := ⟨by kernel_rfl⟩
instance : TPlain Tryz.prog 182 := ⟨by kernel_rfl⟩
instance : TSize Tryz.prog 182 1 := ⟨by kernel_rfl⟩
instance : TPlain Tryz.prog 184 := ⟨by kernel_rfl⟩
instance : TSize Tryz.prog 184 1 := ⟨by kernel_rfl⟩
instance : TAgg Tryz.prog 185 2 := ⟨by kernel_rfl, by kernel_rfl⟩
instance : TSize Tryz.prog 185 2 := ⟨by kernel_rfl⟩
instance : TZero Tryz.prog 185 ([.int .i64 0, .slice none 0 0]) := ⟨by kernel_rfl⟩
instance : TElem Tryz.prog 185 2 32 ([.int .i64 0, .slice none 0 0]) := ⟨by kernel_rfl, by kernel_rfl⟩
instance : TPlaces Tryz.prog 185 [(0, 1), (1, 1)] := ⟨by kernel_rfl⟩
instance : TField Tryz.prog 185 0 0 := ⟨_, _, Tryz.underlying185, rfl, rfl, by kernel_rfl⟩
instance : TField Tryz.prog 185 1 1 := ⟨_, _, Tryz.underlying185, rfl, rfl, by kernel_rfl⟩
instance : TAgg Tryz.prog 186 2 := ⟨by kernel_rfl, by kernel_rfl⟩
instance : TSize Tryz.prog 186 2 := ⟨by kernel_rfl⟩
instance : TZero Tryz.prog 186 ([.int .i64 0, .slice none 0 0]) := ⟨by kernel_rfl⟩
instance : TElem Tryz.prog 186 2 32 ([.int .i64 0, .slice none 0 0]) := ⟨by kernel_rfl, by kernel_rfl⟩
instance : TPlaces Tryz.prog 186 [(0, 1), (1, 1)] := ⟨by kernel_rfl⟩
instance : TField Tryz.prog 186 0 0 := ⟨_, _, Tryz.underlying186, rfl, rfl, by kernel_rfl⟩
instance : TField Tryz.prog 186 1 1 := ⟨_, _, Tryz.underlying186, rfl, rfl, by kernel_rfl⟩
instance : TPlain Tryz.prog 187 := ⟨by kernel_rfl⟩
instance : TSize Tryz.prog 187 1 := ⟨by kernel_rfl⟩
instance : TAgg Tryz.prog 188 2 := ⟨by kernel_rfl, by kernel_rfl⟩
instance : TSize Tryz.prog 188 2 := ⟨by kernel_rfl⟩
instance : TZero Tryz.prog 188 ([.bool false, .int .u8 0]) := ⟨by kernel_rfl⟩
instance : TElem Tryz.prog 188 2 2 ([.bool false, .int .u8 0]) := ⟨by kernel_rfl, by kernel_rfl⟩
instance : TPlaces Tryz.prog 188 [(0, 1), (1, 1)] := ⟨by kernel_rfl⟩
instance : TField Tryz.prog 188 0 0 := ⟨_, _, Tryz.underlying188, rfl, rfl, by kernel_rfl⟩
instance : TField Tryz.prog 188 1 1 := ⟨_, _, Tryz.underlying188, rfl, rfl, by kernel_rfl⟩
instance : TEq Tryz.prog 188 ([.bool false, .int .u8 0]) := ⟨by kernel_rfl, by kernel_rfl, by kernel_rfl⟩
instance : TAgg Tryz.prog 189 2 := ⟨by kernel_rfl, by kernel_rfl⟩
instance : TSize Tryz.prog 189 2 := ⟨by kernel_rfl⟩
instance : TZero Tryz.prog 189 ([.bool false, .int .u8 0]) := ⟨by kernel_rfl⟩
instance : TElem Tryz.prog 189 2 2 ([.bool false, .int .u8 0]) := ⟨by kernel_rfl, by kernel_rfl⟩
instance : TPlaces Tryz.prog 189 [(0, 1), (1, 1)] := ⟨by kernel_rfl⟩
instance : TField Tryz.prog 189 0 0 := ⟨_, _, Tryz.underlying189, rfl, rfl, by kernel_rfl⟩
instance : TField Tryz.prog 189 1 1 := ⟨_, _, Tryz.underlying189, rfl, rfl, by kernel_rfl⟩
instance : TEq Tryz.prog 189 ([.bool false, .int .u8 0]) := ⟨by kernel_rfl, by kernel_rfl, by kernel_rfl⟩
instance : TPlain Tryz.prog 190 := ⟨by kernel_rfl⟩
instance : TSize Tryz.prog 190 1 := ⟨by kernel_rfl⟩
instance : TPlain Tryz.prog 191 := ⟨by kernel_rfl⟩
instance : TSize Tryz.prog 191 1 := ⟨by kernel_rfl⟩
instance : TPlain Tryz.prog 192 := ⟨by kernel_rfl⟩
instance : TSize Tryz.prog 192 1 := ⟨by kernel_rfl⟩
instance : TPlain Tryz.prog 193 := ⟨by kernel_rfl⟩
instance : TSize Tryz.prog 193 1 := ⟨by kernel_rfl⟩
instance : TPlain Tryz.prog 194 := ⟨by kernel_rfl⟩
instance : TSize Tryz.prog 194 1 := ⟨by kernel_rfl⟩
instance : TPlain Tryz.prog 196 := ⟨by kernel_rfl⟩
instance : TSize Tryz.prog 196 1 := ⟨by kernel_rfl⟩
instance : TPlain Tryz.prog 197 := ⟨by kernel_rfl⟩
instance : TSize Tryz.prog 197 1 := ⟨by kernel_rfl⟩
instance : TPlain Tryz.prog 198 := ⟨by kernel_rfl⟩
instance : TSize Tryz.prog 198 1 := ⟨by kernel_rfl⟩
instance : TPlain Tryz.prog 199 := ⟨by kernel_rfl⟩
instance : TSize Tryz.prog 199 1 := ⟨by kernel_rfl⟩
instance : TPlain Tryz.prog 200 := ⟨by kernel_rfl⟩
instance : TSize Tryz.prog 200 1 := ⟨by kernel_rfl⟩
instance : TPlain Tryz.prog 202 := ⟨by kernel_rfl⟩
instance : TSize Tryz.prog 202 1 := ⟨by kernel_rfl⟩
instance : TPlain Tryz.prog 203 := ⟨by kernel_rfl⟩
instance : TSize Tryz.prog 203 1 := ⟨by kernel_rfl⟩
instance : TPlain Tryz.prog 204 := ⟨by kernel_rfl⟩
instance : TSize Tryz.prog 204 1 := ⟨by kernel_rfl⟩
instance : TPlain Tryz.prog 205 := ⟨by kernel_rfl⟩
instance : TSize Tryz.prog 205 1 := ⟨by kernel_rfl⟩
instance : TPlain Tryz.prog 206 := ⟨by kernel_rfl⟩
instance : TSize Tryz.prog 206 1 := ⟨by kernel_rfl⟩
instance : TPlain Tryz.prog 207 := ⟨by kernel_rfl⟩
instance : TSize Tryz.prog 207 1 := ⟨by kernel_rfl⟩
instance : TPlain Tryz.prog 208 := ⟨by kernel_rfl⟩
instance : TSize Tryz.prog 208 1 := ⟨by kernel_rfl⟩
instance : TPlain Tryz.prog 209 := ⟨by kernel_rfl⟩
instance : TSize Tryz.prog 209 1 := ⟨by kernel_rfl⟩
instance : TPlain Tryz.prog 210 := ⟨by kernel_rfl⟩
instance : TSize Tryz.prog 210 1 := ⟨by kernel_rfl⟩
instance : TPlain Tryz.prog 211 := ⟨by kernel_rfl⟩
instance : TSize Tryz.prog 211 1 := ⟨by kernel_rfl⟩
instance : TPlain Tryz.prog 212 := ⟨by kernel_rfl⟩
instance : TSize Tryz.prog 212 1 := ⟨by kernel_rfl⟩
instance : TPlain Tryz.prog 213 := ⟨by kernel_rfl⟩
instance : TSize Tryz.prog 213 1 := ⟨by kernel_rfl⟩
instance : TPlain Tryz.prog 214 := ⟨by kernel_rfl⟩
instance : TSize Tryz.prog 214 1 := ⟨by kernel_rfl⟩
instance : TPlain Tryz.prog 215 := ⟨by kernel_rfl⟩
instance : TSize Tryz.prog 215 1 := ⟨by kernel_rfl⟩
instance : TPlain Tryz.prog 216 := ⟨by kernel_rfl⟩
instance : TSize Tryz.prog 216 1 := ⟨by kernel_rfl⟩
instance : TPlain Tryz.prog 217 := ⟨by kernel_rfl⟩
instance : TSize Tryz.prog 217 1 := ⟨by kernel_rfl⟩
instance : TPlain Tryz.prog 218 := ⟨by kernel_rfl⟩
instance : TSize Tryz.prog 218 1 := ⟨by kernel_rfl⟩
instance : TPlain Tryz.prog 219 := ⟨by kernel_rfl⟩
instance : TSize Tryz.prog 219 1 := ⟨by kernel_rfl⟩
instance : TPlain Tryz.prog 220 := ⟨by kernel_rfl⟩
instance : TSize Tryz.prog 220 1 := ⟨by kernel_rfl⟩
instance : TPlain Tryz.prog 221 := ⟨by kernel_rfl⟩
instance : TSize Tryz.prog 221 1 := ⟨by kernel_rfl⟩
instance : TPlain Tryz.prog 222 := ⟨by kernel_rfl⟩
instance : TSize Tryz.prog 222 1 := ⟨by kernel_rfl⟩
instance : TPlain Tryz.prog 224 := ⟨by kernel_rfl⟩
instance : TSize Tryz.prog 224 1 := ⟨by kernel_rfl⟩
instance : TPlain Tryz.prog 225 := ⟨by kernel_rfl⟩
instance : TSize Tryz.prog 225 1 := ⟨by kernel_rfl⟩
instance : TPlain Tryz.prog 226 := ⟨by kernel_rfl⟩
instance : TSize Tryz.prog 226 1 := ⟨by kernel_rfl⟩
instance : TPlain Tryz.prog 227 := ⟨by kernel_rfl⟩
instance : TSize Tryz.prog 227 1 := ⟨by kernel_rfl⟩
instance : TPlain Tryz.prog 228 := ⟨by kernel_rfl⟩
instance : TSize Tryz.prog 228 1 := ⟨by kernel_rfl⟩
instance : TPlain Tryz.prog 229 := ⟨by kernel_rfl⟩
instance : TSize Tryz.prog 229 1 := ⟨by kernel_rfl⟩
instance : TPlain Tryz.prog 230 := ⟨by kernel_rfl⟩
instance : TSize Tryz.prog 230 1 := ⟨by kernel_rfl⟩
instance : TPlain Tryz.prog 231 := ⟨by kernel_rfl⟩
instance : TSize Tryz.prog 231 1 := ⟨by kernel_rfl⟩
instance : TPlain Tryz.prog 232 := ⟨by kernel_rfl⟩
instance : TSize Tryz.prog 232 1 := ⟨by kernel_rfl⟩
instance : TPlain Tryz.prog 233 := ⟨by kernel_rfl⟩
instance : TSize Tryz.prog 233 1 := ⟨by kernel_rfl⟩
instance : TPlain Tryz.prog 234 := ⟨by kernel_rfl⟩
instance : TSize Tryz.prog 234 1 := ⟨by kernel_rfl⟩
instance : TPlain Tryz.prog 235 := ⟨by kernel_rfl⟩
instance : TSize Tryz.prog 235 1 := ⟨by kernel_rfl⟩
instance : TZero Tryz.prog 235 ([.pointer none]) := ⟨by kernel_rfl⟩
instance : TElem Tryz.prog 235 1 8 ([.pointer none]) := ⟨by kernel_rfl, by kernel_rfl⟩
instance : TPtr Tryz.prog 235 := ⟨by kernel_rfl⟩
instance : TAgg Tryz.prog 236 1 := ⟨by kernel_rfl, by kernel_rfl⟩
instance : TSize Tryz.prog 236 1 := ⟨by kernel_rfl⟩
instance : TZero Tryz.prog 236 ([.slice none 0 0]) := ⟨by kernel_rfl⟩
instance : TElem Tryz.prog 236 1 24 ([.slice none 0 0]) := ⟨by kernel_rfl, by kernel_rfl⟩
instance : TPlaces Tryz.prog 236 [(0, 1)] := ⟨by kernel_rfl⟩
instance : TField Tryz.prog 236 0 0 := ⟨_, _, Tryz.underlying236, rfl, rfl, by kernel_rfl⟩
instance : TAgg Tryz.prog 237 1 := ⟨by kernel_rfl, by kernel_rfl⟩
instance : TSize Tryz.prog 237 1 := ⟨by kernel_rfl⟩
instance : TZero Tryz.prog 237 ([.slice none 0 0]) := ⟨by kernel_rfl⟩
instance : TElem Tryz.prog 237 1 24 ([.slice none 0 0]) := ⟨by kernel_rfl, by kernel_rfl⟩
instance : TPlaces Tryz.prog 237 [(0, 1)] := ⟨by kernel_rfl⟩
instance : TField Tryz.prog 237 0 0 := ⟨_, _, Tryz.underlying237, rfl, rfl, by kernel_rfl⟩
instance : TPlain Tryz.prog 238 := ⟨by kernel_rfl⟩
instance : TSize Tryz.prog 238 1 := ⟨by kernel_rfl⟩
instance : TPlain Tryz.prog 239 := ⟨by kernel_rfl⟩
instance : TSize Tryz.prog 239 1 := ⟨by kernel_rfl⟩
instance : TPlain Tryz.prog 240 := ⟨by kernel_rfl⟩
instance : TSize Tryz.prog 240 1 := ⟨by kernel_rfl⟩
instance : TPlain Tryz.prog 241 := ⟨by kernel_rfl⟩
instance : TSize Tryz.prog 241 1 := ⟨by kernel_rfl⟩
instance : TPlain Tryz.prog 242 := ⟨by kernel_rfl⟩
instance : TSize Tryz.prog 242 1 := ⟨by kernel_rfl⟩
instance : TPlain Tryz.prog 243 := ⟨by kernel_rfl⟩
instance : TSize Tryz.prog 243 1 := ⟨by kernel_rfl⟩
instance : TPlain Tryz.prog 244 := ⟨by kernel_rfl⟩
instance : TSize Tryz.prog 244 1 := ⟨by kernel_rfl⟩
instance : TPlain Tryz.prog 245 := ⟨by kernel_rfl⟩
instance : TSize Tryz.prog 245 1 := ⟨by kernel_rfl⟩
instance : TPlain Tryz.prog 246 := ⟨by kernel_rfl⟩
instance : TSize Tryz.prog 246 1 := ⟨by kernel_rfl⟩
instance : TPlain Tryz.prog 247 := ⟨by kernel_rfl⟩
instance : TSize Tryz.prog 247 1 := ⟨by kernel_rfl⟩
instance : TPlain Tryz.prog 248 := ⟨by kernel_rfl⟩
instance : TSize Tryz.prog 248 1 := ⟨by kernel_rfl⟩
instance : TZero Tryz.prog 248 ([.int .i64 0]) := ⟨by kernel_rfl⟩
instance : TElem Tryz.prog 248 1 8 ([.int .i64 0]) := ⟨by kernel_rfl, by kernel_rfl⟩
instance : TInt Tryz.prog 248 .i64 := ⟨Tryz.underlying248⟩
instance : TPlain Tryz.prog 250 := ⟨by kernel_rfl⟩
instance : TSize Tryz.prog 250 1 := ⟨by kernel_rfl⟩
instance : TPlain Tryz.prog 251 := ⟨by kernel_rfl⟩
instance : TSize Tryz.prog 251 1 := ⟨by kernel_rfl⟩
instance : TPlain Tryz.prog 252 := ⟨by kernel_rfl⟩
instance : TSize Tryz.prog 252 1 := ⟨by kernel_rfl⟩
instance : TPlain Tryz.prog 254 := ⟨by kernel_rfl⟩
instance : TSize Tryz.prog 254 1 := ⟨by kernel_rfl⟩
instance : TPlain Tryz.prog 255 := ⟨by kernel_rfl⟩
instance : TSize Tryz.prog 255 1 := ⟨by kernel_rfl⟩
instance : TPlain Tryz.prog 256 := ⟨by kernel_rfl⟩
instance : TSize Tryz.prog 256 1 := ⟨by kernel_rfl⟩
instance : TPlain Tryz.prog 257 := ⟨by kernel_rfl⟩
instance : TSize Tryz.prog 257 1 := ⟨by kernel_rfl⟩
instance : TPlain Tryz.prog 258 := ⟨by kernel_rfl⟩
instance : TSize Tryz.prog 258 1 := ⟨by kernel_rfl⟩
instance : TPlain Tryz.prog 259 := ⟨by kernel_rfl⟩
instance : TSize Tryz.prog 259 1 := ⟨by kernel_rfl⟩
instance : TPlain Tryz.prog 260 := ⟨by kernel_rfl⟩
instance : TSize Tryz.prog 260 1 := ⟨by kernel_rfl⟩
instance : TPlain Tryz.prog 261 := ⟨by kernel_rfl⟩
instance : TSize Tryz.prog 261 1 := ⟨by kernel_rfl⟩
instance : TPlain Tryz.prog 262 := ⟨by kernel_rfl⟩
instance : TSize Tryz.prog 262 1 := ⟨by kernel_rfl⟩
instance : TPlain Tryz.prog 263 := ⟨by kernel_rfl⟩
instance : TSize Tryz.prog 263 1 := ⟨by kernel_rfl⟩
instance : TZero Tryz.prog 263 ([.pointer none]) := ⟨by kernel_rfl⟩
instance : TElem Tryz.prog 263 1 8 ([.pointer none]) := ⟨by kernel_rfl, by kernel_rfl⟩
instance : TPtr Tryz.prog 263 := ⟨by kernel_rfl⟩
instance : TAgg Tryz.prog 264 2 := ⟨by kernel_rfl, by kernel_rfl⟩
instance : TSize Tryz.prog 264 2 := ⟨by kernel_rfl⟩
instance : TZero Tryz.prog 264 ([.pointer none, .int .i64 0]) := ⟨by kernel_rfl⟩
instance : TElem Tryz.prog 264 2 16 ([.pointer none, .int .i64 0]) := ⟨by kernel_rfl, by kernel_rfl⟩
instance : TPlaces Tryz.prog 264 [(0, 1), (1, 1)] := ⟨by kernel_rfl⟩
instance : TField Tryz.prog 264 0 0 := ⟨_, _, Tryz.underlying264, rfl, rfl, by kernel_rfl⟩
instance : TField Tryz.prog 264 1 1 := ⟨_, _, Tryz.underlying264, rfl, rfl, by kernel_rfl⟩
instance : TAgg Tryz.prog 265 2 := ⟨by kernel_rfl, by kernel_rfl⟩
instance : TSize Tryz.prog 265 2 := ⟨by kernel_rfl⟩
instance : TZero Tryz.prog 265 ([.pointer none, .int .i64 0]) := ⟨by kernel_rfl⟩
instance : TElem Tryz.prog 265 2 16 ([.pointer none, .int .i64 0]) := ⟨by kernel_rfl, by kernel_rfl⟩
instance : TPlaces Tryz.prog 265 [(0, 1), (1, 1)] := ⟨by kernel_rfl⟩
instance : TField Tryz.prog 265 0 0 := ⟨_, _, Tryz.underlying265, rfl, rfl, by kernel_rfl⟩
instance : TField Tryz.prog 265 1 1 := ⟨_, _, Tryz.underlying265, rfl, rfl, by kernel_rfl⟩
instance : TPlain Tryz.prog 266 := ⟨by kernel_rfl⟩
instance : TSize Tryz.prog 266 1 := ⟨by kernel_rfl⟩
instance : TPlain Tryz.prog 267 := ⟨by kernel_rfl⟩
instance : TSize Tryz.prog 267 1 := ⟨by kernel_rfl⟩
instance : TPlain Tryz.prog 268 := ⟨by kernel_rfl⟩
instance : TSize Tryz.prog 268 1 := ⟨by kernel_rfl⟩
instance : TPlain Tryz.prog 269 := ⟨by kernel_rfl⟩
instance : TSize Tryz.prog 269 1 := ⟨by kernel_rfl⟩
instance : TPlain Tryz.prog 270 := ⟨by kernel_rfl⟩
instance : TSize Tryz.prog 270 1 := ⟨by kernel_rfl⟩
instance : TPlain Tryz.prog 271 := ⟨by kernel_rfl⟩
instance : TSize Tryz.prog 271 1 := ⟨by kernel_rfl⟩
instance : TPlain Tryz.prog 272 := ⟨by kernel_rfl⟩
instance : TSize Tryz.prog 272 1 := ⟨by kernel_rfl⟩
instance : TPlain Tryz.prog 273 := ⟨by kernel_rfl⟩
instance : TSize Tryz.prog 273 1 := ⟨by kernel_rfl⟩
instance : TPlain Tryz.prog 274 := ⟨by kernel_rfl⟩
instance : TSize Tryz.prog 274 1 := ⟨by kernel_rfl⟩
instance : TPlain Tryz.prog 275 := ⟨by kernel_rfl⟩
instance : TSize Tryz.prog 275 1 := ⟨by kernel_rfl⟩
instance : TPlain Tryz.prog 276 := ⟨by kernel_rfl⟩
instance : TSize Tryz.prog 276 1 := ⟨by kernel_rfl⟩
instance : TPlain Tryz.prog 277 := ⟨by kernel_rfl⟩
instance : TSize Tryz.prog 277 1 := ⟨by kernel_rfl⟩
instance : TPlain Tryz.prog 278 := ⟨by kernel_rfl⟩
instance : TSize Tryz.prog 278 1 := ⟨by kernel_rfl⟩
instance : TPlain Tryz.prog 279 := ⟨by kernel_rfl⟩
instance : TSize Tryz.prog 279 1 := ⟨by kernel_rfl⟩
instance : TPlain Tryz.prog 280 := ⟨by kernel_rfl⟩
instance : TSize Tryz.prog 280 1 := ⟨by kernel_rfl⟩
instance : TZero Tryz.prog 280 ([.int .u64 0]) := ⟨by kernel_rfl⟩
instance : TElem Tryz.prog 280 1 8 ([.int .u64 0]) := ⟨by kernel_rfl, by kernel_rfl⟩
instance : TInt Tryz.prog 280 .u64 := ⟨Tryz.underlying280⟩
instance : TPlain Tryz.prog 281 := ⟨by kernel_rfl⟩
instance : TSize Tryz.prog 281 1 := ⟨by kernel_rfl⟩
instance : TPlain Tryz.prog 282 := ⟨by kernel_rfl⟩
instance : TSize Tryz.prog 282 1 := ⟨by kernel_rfl⟩
instance : TPlain Tryz.prog 283 := ⟨by kernel_rfl⟩
instance : TSize Tryz.prog 283 1 := ⟨by kernel_rfl⟩
instance : TPlain Tryz.prog 284 := ⟨by kernel_rfl⟩
instance : TSize Tryz.prog 284 1 := ⟨by kernel_rfl⟩
instance : TZero Tryz.prog 284 ([.pointer none]) := ⟨by kernel_rfl⟩
instance : TElem Tryz.prog 284 1 8 ([.pointer none]) := ⟨by kernel_rfl, by kernel_rfl⟩
instance : TPtr Tryz.prog 284 := ⟨by kernel_rfl⟩
instance : TPlain Tryz.prog 285 := ⟨by kernel_rfl⟩
instance : TSize Tryz.prog 285 1 := ⟨by kernel_rfl⟩
instance : TPlain Tryz.prog 286 := ⟨by kernel_rfl⟩
instance : TSize Tryz.prog 286 1 := ⟨by kernel_rfl⟩
instance : TPlain Tryz.prog 287 := ⟨by kernel_rfl⟩
instance : TSize Tryz.prog 287 1 := ⟨by kernel_rfl⟩
instance : TZero Tryz.prog 287 ([.slice none 0 0]) := ⟨by kernel_rfl⟩
instance : TElem Tryz.prog 287 1 24 ([.slice none 0 0]) := ⟨by kernel_rfl, by kernel_rfl⟩
instance : TSlice Tryz.prog 287 29 := ⟨Tryz.underlying287⟩
instance : TPlain Tryz.prog 288 := ⟨by kernel_rfl⟩
instance : TSize Tryz.prog 288 1 := ⟨by kernel_rfl⟩
instance : TPlain Tryz.prog 289 := ⟨by kernel_rfl⟩
instance : TSize Tryz.prog 289 1 := ⟨by kernel_rfl⟩
instance : TZero Tryz.prog 289 ([.slice none 0 0]) := ⟨by kernel_rfl⟩
instance : TElem Tryz.prog 289 1 24 ([.slice none 0 0]) := ⟨by kernel_rfl, by kernel_rfl⟩
instance : TSlice Tryz.prog 289 123 := ⟨Tryz.underlying289⟩
instance : TPlain Tryz.prog 290 := ⟨by kernel_rfl⟩
instance : TSize Tryz.prog 290 1 := ⟨by kernel_rfl⟩
instance : TPlain Tryz.prog 291 := ⟨by kernel_rfl⟩
instance : TSize Tryz.prog 291 1 := ⟨by kernel_rfl⟩
instance : TZero Tryz.prog 291 ([.slice none 0 0]) := ⟨by kernel_rfl⟩
instance : TElem Tryz.prog 291 1 24 ([.slice none 0 0]) := ⟨by kernel_rfl, by kernel_rfl⟩
instance : TSlice Tryz.prog 291 57 := ⟨Tryz.underlying291⟩
instance : TPlain Tryz.prog 292 := ⟨by kernel_rfl⟩
instance : TSize Tryz.prog 292 1 := ⟨by kernel_rfl⟩
instance : TPlain Tryz.prog 293 := ⟨by kernel_rfl⟩
instance : TSize Tryz.prog 293 1 := ⟨by kernel_rfl⟩
instance : TZero Tryz.prog 293 ([.pointer none]) := ⟨by kernel_rfl⟩
instance : TElem Tryz.prog 293 1 8 ([.pointer none]) := ⟨by kernel_rfl, by kernel_rfl⟩
instance : TPtr Tryz.prog 293 := ⟨by kernel_rfl⟩
instance : TPlain Tryz.prog 294 := ⟨by kernel_rfl⟩
instance : TSize Tryz.prog 294 1 := ⟨by kernel_rfl⟩
instance : TPlain Tryz.prog 295 := ⟨by kernel_rfl⟩
instance : TSize Tryz.prog 295 1 := ⟨by kernel_rfl⟩
instance : TZero Tryz.prog 295 ([.pointer none]) := ⟨by kernel_rfl⟩
instance : TElem Tryz.prog 295 1 8 ([.pointer none]) := ⟨by kernel_rfl, by kernel_rfl⟩
instance : TPtr Tryz.prog 295 := ⟨by kernel_rfl⟩
instance : TPlain Tryz.prog 297 := ⟨by kernel_rfl⟩
instance : TSize Tryz.prog 297 1 := ⟨by kernel_rfl⟩
instance : TPlain Tryz.prog 298 := ⟨by kernel_rfl⟩
instance : TSize Tryz.prog 298 1 := ⟨by kernel_rfl⟩
instance : TPlain Tryz.prog 299 := ⟨by kernel_rfl⟩
instance : TSize Tryz.prog 299 1 := ⟨by kernel_rfl⟩
instance : TAgg Tryz.prog 300 4 := ⟨by kernel_rfl, by kernel_rfl⟩
instance : TSize Tryz.prog 300 4 := ⟨by kernel_rfl⟩
instance : TZero Tryz.prog 300 ([.pointer none, .pointer none, .pointer none, .string ⟨#[]⟩]) := ⟨by kernel_rfl⟩
instance : TElem Tryz.prog 300 4 40 ([.pointer none, .pointer none, .pointer none, .string ⟨#[]⟩]) := ⟨by kernel_rfl, by kernel_rfl⟩
instance : TPlaces Tryz.prog 300 [(0, 1), (1, 1), (2, 1), (3, 1)] := ⟨by kernel_rfl⟩
instance : TField Tryz.prog 300 0 0 := ⟨_, _, Tryz.underlying300, rfl, rfl, by kernel_rfl⟩
instance : TField Tryz.prog 300 1 1 := ⟨_, _, Tryz.underlying300, rfl, rfl, by kernel_rfl⟩
instance : TField Tryz.prog 300 2 2 := ⟨_, _, Tryz.underlying300, rfl, rfl, by kernel_rfl⟩
instance : TField Tryz.prog 300 3 3 := ⟨_, _, Tryz.underlying300, rfl, rfl, by kernel_rfl⟩
instance : TAgg Tryz.prog 302 0 := ⟨by kernel_rfl, by kernel_rfl⟩
instance : TSize Tryz.prog 302 0 := ⟨by kernel_rfl⟩
instance : TZero Tryz.prog 302 ([]) := ⟨by kernel_rfl⟩
instance : TArr Tryz.prog 302 0 16 1 := ⟨Tryz.underlying302, by kernel_rfl⟩
instance : TAgg Tryz.prog 303 0 := ⟨by kernel_rfl, by kernel_rfl⟩
instance : TSize Tryz.prog 303 0 := ⟨by kernel_rfl⟩
instance : TZero Tryz.prog 303 ([]) := ⟨by kernel_rfl⟩
instance : TPlaces Tryz.prog 303 [(0, 0)] := ⟨by kernel_rfl⟩
instance : TPlain Tryz.prog 307 := ⟨by kernel_rfl⟩
instance : TSize Tryz.prog 307 1 := ⟨by kernel_rfl⟩
instance : TPlain Tryz.prog 308 := ⟨by kernel_rfl⟩
instance : TSize Tryz.prog 308 1 := ⟨by kernel_rfl⟩
instance : TZero Tryz.prog 308 ([.pointer none]) := ⟨by kernel_rfl⟩
instance : TElem Tryz.prog 308 1 8 ([.pointer none]) := ⟨by kernel_rfl, by kernel_rfl⟩
instance : TPtr Tryz.prog 308 := ⟨by kernel_rfl⟩
instance : TAgg Tryz.prog 311 11 := ⟨by kernel_rfl, by kernel_rfl⟩
instance : TSize Tryz.prog 311 11 := ⟨by kernel_rfl⟩
instance : TZero Tryz.prog 311 ([.int .u64 0, .int .u64 0, .int .u32 0, .int .u8 0, .int .u8 0, .int .u8 0, .int .u8 0, .nilFunc, .pointer none, .int .i32 0, .int .i32 0]) := ⟨by kernel_rfl⟩
instance : TElem Tryz.prog 311 11 48 ([.int .u64 0, .int .u64 0, .int .u32 0, .int .u8 0, .int .u8 0, .int .u8 0, .int .u8 0, .nilFunc, .pointer none, .int .i32 0, .int .i32 0]) := ⟨by kernel_rfl, by kernel_rfl⟩
instance : TPlaces Tryz.prog 311 [(0, 1), (1, 1), (2, 1), (3, 1), (4, 1), (5, 1), (6, 1), (7, 1), (8, 1), (9, 1), (10, 1)] := ⟨by kernel_rfl⟩
instance : TField Tryz.prog 311 0 0 := ⟨_, _, Tryz.underlying311, rfl, rfl, by kernel_rfl⟩
instance : TField Tryz.prog 311 1 1 := ⟨_, _, Tryz.underlying311, rfl, rfl, by kernel_rfl⟩
instance : TField Tryz.prog 311 2 2 := ⟨_, _, Tryz.underlying311, rfl, rfl, by kernel_rfl⟩
instance : TField Tryz.prog 311 3 3 := ⟨_, _, Tryz.underlying311, rfl, rfl, by kernel_rfl⟩
instance : TField Tryz.prog 311 4 4 := ⟨_, _, Tryz.underlying311, rfl, rfl, by kernel_rfl⟩
instance : TField Tryz.prog 311 5 5 := ⟨_, _, Tryz.underlying311, rfl, rfl, by kernel_rfl⟩
instance : TField Tryz.prog 311 6 6 := ⟨_, _, Tryz.underlying311, rfl, rfl, by kernel_rfl⟩
instance : TField Tryz.prog 311 7 7 := ⟨_, _, Tryz.underlying311, rfl, rfl, by kernel_rfl⟩
instance : TField Tryz.prog 311 8 8 := ⟨_, _, Tryz.underlying311, rfl, rfl, by kernel_rfl⟩
instance : TField Tryz.prog 311 9 9 := ⟨_, _, Tryz.underlying311, rfl, rfl, by kernel_rfl⟩
instance : TField Tryz.prog 311 10 10 := ⟨_, _, Tryz.underlying311, rfl, rfl, by kernel_rfl⟩
instance : TFn Tryz.prog 3 := ⟨_, Tryz.func3, rfl, by kernel_rfl⟩
instance : TFn Tryz.prog 4 := ⟨_, Tryz.func4, rfl, by kernel_rfl⟩
instance : TFn Tryz.prog 5 := ⟨_, Tryz.func5, rfl, by kernel_rfl⟩
instance : TFn Tryz.prog 6 := ⟨_, Tryz.func6, rfl, by kernel_rfl⟩
instance : TFn Tryz.prog 7 := ⟨_, Tryz.func7, rfl, by kernel_rfl⟩
instance : TFn Tryz.prog 8 := ⟨_, Tryz.func8, rfl, by kernel_rfl⟩
instance : TFn Tryz.prog 9 := ⟨_, Tryz.func9, rfl, by kernel_rfl⟩
instance : TFn Tryz.prog 10 := ⟨_, Tryz.func10, rfl, by kernel_rfl⟩
instance : TFn Tryz.prog 11 := ⟨_, Tryz.func11, rfl, by kernel_rfl⟩
instance : TFn Tryz.prog 12 := ⟨_, Tryz.func12, rfl, by kernel_rfl⟩
instance : TFn Tryz.prog 13 := ⟨_, Tryz.func13, rfl, by kernel_rfl⟩
instance : TFn Tryz.prog 14 := ⟨_, Tryz.func14, rfl, by kernel_rfl⟩
instance : TFn Tryz.prog 15 := ⟨_, Tryz.func15, rfl, by kernel_rfl⟩
instance : TFn Tryz.prog 16 := ⟨_, Tryz.func16, rfl, by kernel_rfl⟩
instance : TFn Tryz.prog 17 := ⟨_, Tryz.func17, rfl, by kernel_rfl⟩
instance : TFn Tryz.prog 18 := ⟨_, Tryz.func18, rfl, by kernel_rfl⟩
instance : TFn Tryz.prog 19 := ⟨_, Tryz.func19, rfl, by kernel_rfl⟩
instance : TFn Tryz.prog 20 := ⟨_, Tryz.func20, rfl, by kernel_rfl⟩
instance : TFn Tryz.prog 21 := ⟨_, Tryz.func21, rfl, by kernel_rfl⟩
instance : TFn Tryz.prog 22 := ⟨_, Tryz.func22, rfl, by kernel_rfl⟩
instance : TFn Tryz.prog 23 := ⟨_, Tryz.func23, rfl, by kernel_rfl⟩
instance : TFn Tryz.prog 24 := ⟨_, Tryz.func24, rfl, by kernel_rfl⟩
instance : TFn Tryz.prog 25 := ⟨_, Tryz.func25, rfl, by kernel_rfl⟩
instance : TFn Tryz.prog 26 := ⟨_, Tryz.func26, rfl, by kernel_rfl⟩
instance : TFn Tryz.prog 27 := ⟨_, Tryz.func27, rfl, by kernel_rfl⟩
instance : TFn Tryz.prog 28 := ⟨_, Tryz.func28, rfl, by kernel_rfl⟩
instance : TFn Tryz.prog 29 := ⟨_, Tryz.func29, rfl, by kernel_rfl⟩
instance : TFn Tryz.prog 30 := ⟨_, Tryz.func30, rfl, by kernel_rfl⟩
instance : TFn Tryz.prog 31 := ⟨_, Tryz.func31, rfl, by kernel_rfl⟩
instance : TFn Tryz.prog 32 := ⟨_, Tryz.func32, rfl, by kernel_rfl⟩
instance : TFn Tryz.prog 33 := ⟨_, Tryz.func33, rfl, by kernel_rfl⟩
instance : TFn Tryz.prog 34 := ⟨_, Tryz.func34, rfl, by kernel_rfl⟩
instance : TFn Tryz.prog 35 := ⟨_, Tryz.func35, rfl, by kernel_rfl⟩
instance : TFn Tryz.prog 36 := ⟨_, Tryz.func36, rfl, by kernel_rfl⟩
instance : TFn Tryz.prog 37 := ⟨_, Tryz.func37, rfl, by kernel_rfl⟩
instance : TFn Tryz.prog 38 := ⟨_, Tryz.func38, rfl, by kernel_rfl⟩
instance : TFn Tryz.prog 39 := ⟨_, Tryz.func39, rfl, by kernel_rfl⟩
instance : TFn Tryz.prog 40 := ⟨_, Tryz.func40, rfl, by kernel_rfl⟩
instance : TFn Tryz.prog 41 := ⟨_, Tryz.func41, rfl, by kernel_rfl⟩
instance : TFn Tryz.prog 42 := ⟨_, Tryz.func42, rfl, by kernel_rfl⟩
instance : TFn Tryz.prog 43 := ⟨_, Tryz.func43, rfl, by kernel_rfl⟩
instance : TFn Tryz.prog 44 := ⟨_, Tryz.func44, rfl, by kernel_rfl⟩
instance : TFn Tryz.prog 45 := ⟨_, Tryz.func45, rfl, by kernel_rfl⟩
instance : TFn Tryz.prog 46 := ⟨_, Tryz.func46, rfl, by kernel_rfl⟩
instance : TFn Tryz.prog 47 := ⟨_, Tryz.func47, rfl, by kernel_rfl⟩
instance : TFn Tryz.prog 48 := ⟨_, Tryz.func48, rfl, by kernel_rfl⟩
instance : TFn Tryz.prog 49 := ⟨_, Tryz.func49, rfl, by kernel_rfl⟩
instance : TFn Tryz.prog 50 := ⟨_, Tryz.func50, rfl, by kernel_rfl⟩
instance : TFn Tryz.prog 51 := ⟨_, Tryz.func51, rfl, by kernel_rfl⟩
instance : TFn Tryz.prog 52 := ⟨_, Tryz.func52, rfl, by kernel_rfl⟩
instance : TFn Tryz.prog 53 := ⟨_, Tryz.func53, rfl, by kernel_rfl⟩
instance : TFn Tryz.prog 54 := ⟨_, Tryz.func54, rfl, by kernel_rfl⟩
instance : TFn Tryz.prog 55 := ⟨_, Tryz.func55, rfl, by kernel_rfl⟩
instance : TFn Tryz.prog 56 := ⟨_, Tryz.func56, rfl, by kernel_rfl⟩
instance : TFn Tryz.prog 57 := ⟨_, Tryz.func57, rfl, by kernel_rfl⟩
instance : TFn Tryz.prog 58 := ⟨_, Tryz.func58, rfl, by kernel_rfl⟩
instance : TFn Tryz.prog 59 := ⟨_, Tryz.func59, rfl, by kernel_rfl⟩
instance : TFn Tryz.prog 60 := ⟨_, Tryz.func60, rfl, by kernel_rfl⟩
instance : TFn Tryz.prog 61 := ⟨_, Tryz.func61, rfl, by kernel_rfl⟩
instance : TFn Tryz.prog 62 := ⟨_, Tryz.func62, rfl, by kernel_rfl⟩
instance : TFn Tryz.prog 63 := ⟨_, Tryz.func63, rfl, by kernel_rfl⟩
instance : TFn Tryz.prog 64 := ⟨_, Tryz.func64, rfl, by kernel_rfl⟩
instance : TFn Tryz.prog 65 := ⟨_, Tryz.func65, rfl, by kernel_rfl⟩
instance : TFn Tryz.prog 66 := ⟨_, Tryz.func66, rfl, by kernel_rfl⟩
instance : TFn Tryz.prog 67 := ⟨_, Tryz.func67, rfl, by kernel_rfl⟩
instance : TFn Tryz.prog 68 := ⟨_, Tryz.func68, rfl, by kernel_rfl⟩
instance : TFn Tryz.prog 69 := ⟨_, Tryz.func69, rfl, by kernel_rfl⟩
instance : TFn Tryz.prog 70 := ⟨_, Tryz.func70, rfl, by kernel_rfl⟩
instance : TFn Tryz.prog 71 := ⟨_, Tryz.func71, rfl, by kernel_rfl⟩
instance : TFn Tryz.prog 72 := ⟨_, Tryz.func72, rfl, by kernel_rfl⟩
instance : TFn Tryz.prog 73 := ⟨_, Tryz.func73, rfl, by kernel_rfl⟩
instance : TFn Tryz.prog 74 := ⟨_, Tryz.func74, rfl, by kernel_rfl⟩
instance : TFn Tryz.prog 75 := ⟨_, Tryz.func75, rfl, by kernel_rfl⟩
instance : TFn Tryz.prog 76 := ⟨_, Tryz.func76, rfl, by kernel_rfl⟩
instance : TFn Tryz.prog 77 := ⟨_, Tryz.func77, rfl, by kernel_rfl⟩
instance : TFn Tryz.prog 78 := ⟨_, Tryz.func78, rfl, by kernel_rfl⟩
instance : TFn Tryz.prog 79 := ⟨_, Tryz.func79, rfl, by kernel_rfl⟩
instance : TFn Tryz.prog 80 := ⟨_, Tryz.func80, rfl, by kernel_rfl⟩
instance : TFn Tryz.prog 81 := ⟨_, Tryz.func81, rfl, by kernel_rfl⟩
instance : TFn Tryz.prog 82 := ⟨_, Tryz.func82, rfl, by kernel_rfl⟩
instance : TFn Tryz.prog 83 := ⟨_, Tryz.func83, rfl, by kernel_rfl⟩
instance : TFn Tryz.prog 84 := ⟨_, Tryz.func84, rfl, by kernel_rfl⟩
instance : TFn Tryz.prog 85 := ⟨_, Tryz.func85, rfl, by kernel_rfl⟩
instance : TFn Tryz.prog 86 := ⟨_, Tryz.func86, rfl, by kernel_rfl⟩
instance : TFn Tryz.prog 87 := ⟨_, Tryz.func87, rfl, by kernel_rfl⟩
instance : TFn Tryz.prog 88 := ⟨_, Tryz.func88, rfl, by kernel_rfl⟩
instance : TFn Tryz.prog 89 := ⟨_, Tryz.func89, rfl, by kernel_rfl⟩
instance : TFn Tryz.prog 90 := ⟨_, Tryz.func90, rfl, by kernel_rfl⟩
instance : TFn Tryz.prog 91 := ⟨_, Tryz.func91, rfl, by kernel_rfl⟩
instance : TFn Tryz.prog 92 := ⟨_, Tryz.func92, rfl, by kernel_rfl⟩
instance : TFn Tryz.prog 93 := ⟨_, Tryz.func93, rfl, by kernel_rfl⟩
instance : TFn Tryz.prog 94 := ⟨_, Tryz.func94, rfl, by kernel_rfl⟩
instance : TFn Tryz.prog 95 := ⟨_, Tryz.func95, rfl, by kernel_rfl⟩
instance : TFn Tryz.prog 96 := ⟨_, Tryz.func96, rfl, by kernel_rfl⟩
instance : TFn Tryz.prog 97 := ⟨_, Tryz.func97, rfl, by kernel_rfl⟩
instance : TFn Tryz.prog 98 := ⟨_, Tryz.func98, rfl, by kernel_rfl⟩
instance : TFn Tryz.prog 99 := ⟨_, Tryz.func99, rfl, by kernel_rfl⟩
instance : TFn Tryz.prog 100 := ⟨_, Tryz.func100, rfl, by kernel_rfl⟩
instance : TFn Tryz.prog 101 := ⟨_, Tryz.func101, rfl, by kernel_rfl⟩
instance : TFn Tryz.prog 102 := ⟨_, Tryz.func102, rfl, by kernel_rfl⟩
instance : TFn Tryz.prog 103 := ⟨_, Tryz.func103, rfl, by kernel_rfl⟩
instance : TFn Tryz.prog 104 := ⟨_, Tryz.func104, rfl, by kernel_rfl⟩
instance : TFn Tryz.prog 105 := ⟨_, Tryz.func105, rfl, by kernel_rfl⟩
instance : TFn Tryz.prog 106 := ⟨_, Tryz.func106, rfl, by kernel_rfl⟩
instance : TFn Tryz.prog 107 := ⟨_, Tryz.func107, rfl, by kernel_rfl⟩
instance : TFn Tryz.prog 108 := ⟨_, Tryz.func108, rfl, by kernel_rfl⟩
instance : TFn Tryz.prog 109 := ⟨_, Tryz.func109, rfl, by kernel_rfl⟩
instance : TFn Tryz.prog 110 := ⟨_, Tryz.func110, rfl, by kernel_rfl⟩
instance : TFn Tryz.prog 111 := ⟨_, Tryz.func111, rfl, by kernel_rfl⟩
instance : TFn Tryz.prog 112 := ⟨_, Tryz.func112, rfl, by kernel_rfl⟩
instance : TFn Tryz.prog 113 := ⟨_, Tryz.func113, rfl, by kernel_rfl⟩
instance : TFn Tryz.prog 114 := ⟨_, Tryz.func114, rfl, by kernel_rfl⟩
instance : TFn Tryz.prog 115 := ⟨_, Tryz.func115, rfl, by kernel_rfl⟩
instance : TFn Tryz.prog 116 := ⟨_, Tryz.func116, rfl, by kernel_rfl⟩
instance : TFn Tryz.prog 117 := ⟨_, Tryz.func117, rfl, by kernel_rfl⟩
instance : TFn Tryz.prog 118 := ⟨_, Tryz.func118, rfl, by kernel_rfl⟩
instance : TFn Tryz.prog 119 := ⟨_, Tryz.func119, rfl, by kernel_rfl⟩
instance : TFn Tryz.prog 120 := ⟨_, Tryz.func120, rfl, by kernel_rfl⟩
instance : TFn Tryz.prog 121 := ⟨_, Tryz.func121, rfl, by kernel_rfl⟩
instance : TFn Tryz.prog 122 := ⟨_, Tryz.func122, rfl, by kernel_rfl⟩
instance : TFn Tryz.prog 123 := ⟨_, Tryz.func123, rfl, by kernel_rfl⟩
instance : TFn Tryz.prog 124 := ⟨_, Tryz.func124, rfl, by kernel_rfl⟩
instance : TFn Tryz.prog 125 := ⟨_, Tryz.func125, rfl, by kernel_rfl⟩
instance : TFn Tryz.prog 126 := ⟨_, Tryz.func126, rfl, by kernel_rfl⟩
instance : TFn Tryz.prog 127 := ⟨_, Tryz.func127, rfl, by kernel_rfl⟩
instance : TFn Tryz.prog 128 := ⟨_, Tryz.func128, rfl, by kernel_rfl⟩
instance : TFn Tryz.prog 129 := ⟨_, Tryz.func129, rfl, by kernel_rfl⟩
instance : TFn Tryz.prog 130 := ⟨_, Tryz.func130, rfl, by kernel_rfl⟩
instance : TFn Tryz.prog 131 := ⟨_, Tryz.func131, rfl, by kernel_rfl⟩
instance : TFn Tryz.prog 132 := ⟨_, Tryz.func132, rfl, by kernel_rfl⟩
instance : TFn Tryz.prog 133 := ⟨_, Tryz.func133, rfl, by kernel_rfl⟩
instance : TFn Tryz.prog 134 := ⟨_, Tryz.func134, rfl, by kernel_rfl⟩
instance : TFn Tryz.prog 135 := ⟨_, Tryz.func135, rfl, by kernel_rfl⟩
instance : TFn Tryz.prog 136 := ⟨_, Tryz.func136, rfl, by kernel_rfl⟩
instance : TFn Tryz.prog 137 := ⟨_, Tryz.func137, rfl, by kernel_rfl⟩
instance : TFn Tryz.prog 138 := ⟨_, Tryz.func138, rfl, by kernel_rfl⟩
instance : TFn Tryz.prog 139 := ⟨_, Tryz.func139, rfl, by kernel_rfl⟩
instance : TFn Tryz.prog 140 := ⟨_, Tryz.func140, rfl, by kernel_rfl⟩
instance : TFn Tryz.prog 141 := ⟨_, Tryz.func141, rfl, by kernel_rfl⟩
instance : TFn Tryz.prog 142 := ⟨_, Tryz.func142, rfl, by kernel_rfl⟩
instance : TFn Tryz.prog 143 := ⟨_, Tryz.func143, rfl, by kernel_rfl⟩
instance : TFn Tryz.prog 144 := ⟨_, Tryz.func144, rfl, by kernel_rfl⟩
instance : TFn Tryz.prog 145 := ⟨_, Tryz.func145, rfl, by kernel_rfl⟩
instance : TFn Tryz.prog 146 := ⟨_, Tryz.func146, rfl, by kernel_rfl⟩
instance : TFn Tryz.prog 147 := ⟨_, Tryz.func147, rfl, by kernel_rfl⟩
instance : TFn Tryz.prog 148 := ⟨_, Tryz.func148, rfl, by kernel_rfl⟩
instance : TFn Tryz.prog 149 := ⟨_, Tryz.func149, rfl, by kernel_rfl⟩
instance : TFn Tryz.prog 150 := ⟨_, Tryz.func150, rfl, by kernel_rfl⟩
instance : TFn Tryz.prog 151 := ⟨_, Tryz.func151, rfl, by kernel_rfl⟩
instance : TFn Tryz.prog 153 := ⟨_, Tryz.func153, rfl, by kernel_rfl⟩
instance : TFn Tryz.prog 154 := ⟨_, Tryz.func154, rfl, by kernel_rfl⟩
instance : TFn Tryz.prog 155 := ⟨_, Tryz.func155, rfl, by kernel_rfl⟩
instance : TFn Tryz.prog 156 := ⟨_, Tryz.func156, rfl, by kernel_rfl⟩
instance : TFn Tryz.prog 157 := ⟨_, Tryz.func157, rfl, by kernel_rfl⟩
instance : TFn Tryz.prog 158 := ⟨_, Tryz.func158, rfl, by kernel_rfl⟩
instance : TFn Tryz.prog 159 := ⟨_, Tryz.func159, rfl, by kernel_rfl⟩
instance : TFn Tryz.prog 160 := ⟨_, Tryz.func160, rfl, by kernel_rfl⟩
instance : TFn Tryz.prog 161 := ⟨_, Tryz.func161, rfl, by kernel_rfl⟩
instance : TFn Tryz.prog 162 := ⟨_, Tryz.func162, rfl, by kernel_rfl⟩
instance : TFn Tryz.prog 163 := ⟨_, Tryz.func163, rfl, by kernel_rfl⟩
instance : TFn Tryz.prog 164 := ⟨_, Tryz.func164, rfl, by kernel_rfl⟩
instance : TFn Tryz.prog 165 := ⟨_, Tryz.func165, rfl, by kernel_rfl⟩
instance : TFn Tryz.prog 166 := ⟨_, Tryz.func166, rfl, by kernel_rfl⟩
instance : TFn Tryz.prog 167 := ⟨_, Tryz.func167, rfl, by kernel_rfl⟩
instance : TFn Tryz.prog 168 := ⟨_, Tryz.func168, rfl, by kernel_rfl⟩
instance : TFn Tryz.prog 169 := ⟨_, Tryz.func169, rfl, by kernel_rfl⟩
instance : TFn Tryz.prog 170 := ⟨_, Tryz.func170, rfl, by kernel_rfl⟩
instance : TFn Tryz.prog 171 := ⟨_, Tryz.func171, rfl, by kernel_rfl⟩
instance : TFn Tryz.prog 172 := ⟨_, Tryz.func172, rfl, by kernel_rfl⟩
instance : TFn Tryz.prog 173 := ⟨_, Tryz.func173, rfl, by kernel_rfl⟩
instance : TFn Tryz.prog 174 := ⟨_, Tryz.func174, rfl, by kernel_rfl⟩
instance : TFn Tryz.prog 175 := ⟨_, Tryz.func175, rfl, by kernel_rfl⟩
instance : TFn Tryz.prog 176 := ⟨_, Tryz.func176, rfl, by kernel_rfl⟩
instance : TFn Tryz.prog 177 := ⟨_, Tryz.func177, rfl, by kernel_rfl⟩
instance : TFn Tryz.prog 178 := ⟨_, Tryz.func178, rfl, by kernel_rfl⟩
instance : TFn Tryz.prog 179 := ⟨_, Tryz.func179, rfl, by kernel_rfl⟩
instance : TFn Tryz.prog 180 := ⟨_, Tryz.func180, rfl, by kernel_rfl⟩
instance : TFn Tryz.prog 182 := ⟨_, Tryz.func182, rfl, by kernel_rfl⟩
instance : TFn Tryz.prog 183 := ⟨_, Tryz.func183, rfl, by kernel_rfl⟩
instance : TFn Tryz.prog 184 := ⟨_, Tryz.func184, rfl, by kernel_rfl⟩
instance : TFn Tryz.prog 186 := ⟨_, Tryz.func186, rfl, by kernel_rfl⟩
instance : TFn Tryz.prog 187 := ⟨_, Tryz.func187, rfl, by kernel_rfl⟩
instance : TFn Tryz.prog 188 := ⟨_, Tryz.func188, rfl, by kernel_rfl⟩
instance : TFn Tryz.prog 189 := ⟨_, Tryz.func189, rfl, by kernel_rfl⟩
instance : TFn Tryz.prog 190 := ⟨_, Tryz.func190, rfl, by kernel_rfl⟩
instance : TFn Tryz.prog 191 := ⟨_, Tryz.func191, rfl, by kernel_rfl⟩
instance : TFn Tryz.prog 192 := ⟨_, Tryz.func192, rfl, by kernel_rfl⟩
instance : TFn Tryz.prog 193 := ⟨_, Tryz.func193, rfl, by kernel_rfl⟩
instance : TFn Tryz.prog 194 := ⟨_, Tryz.func194, rfl, by kernel_rfl⟩
instance : TFn Tryz.prog 195 := ⟨_, Tryz.func195, rfl, by kernel_rfl⟩
instance : TFn Tryz.prog 196 := ⟨_, Tryz.func196, rfl, by kernel_rfl⟩
instance : TFn Tryz.prog 197 := ⟨_, Tryz.func197, rfl, by kernel_rfl⟩
instance : TFn Tryz.prog 198 := ⟨_, Tryz.func198, rfl, by kernel_rfl⟩
instance : TFn Tryz.prog 199 := ⟨_, Tryz.func199, rfl, by kernel_rfl⟩
instance : TFn Tryz.prog 200 := ⟨_, Tryz.func200, rfl, by kernel_rfl⟩
instance : TFn Tryz.prog 201 := ⟨_, Tryz.func201, rfl, by kernel_rfl⟩
instance : TFn Tryz.prog 202 := ⟨_, Tryz.func202, rfl, by kernel_rfl⟩
instance : TFn Tryz.prog 203 := ⟨_, Tryz.func203, rfl, by kernel_rfl⟩
instance : TFn Tryz.prog 204 := ⟨_, Tryz.func204, rfl, by kernel_rfl⟩
instance : TFn Tryz.prog 205 := ⟨_, Tryz.func205, rfl, by kernel_rfl⟩
instance : TFn Tryz.prog 206 := ⟨_, Tryz.func206, rfl, by kernel_rfl⟩
instance : TFn Tryz.prog 207 := ⟨_, Tryz.func207, rfl, by kernel_rfl⟩
instance : TFn Tryz.prog 208 := ⟨_, Tryz.func208, rfl, by kernel_rfl⟩
instance : TFn Tryz.prog 209 := ⟨_, Tryz.func209, rfl, by kernel_rfl⟩
end Go.Proofs.YtcglabmlhljkmaaGreat
end
section
/- What is asked of this program as a whole. -/
namespace Go.Proofs.YtcglabmlhljkmaaGreat
open Go Go.Gv
instance : TMixed Tryz.prog := ⟨by kernel_rfl⟩
end Go.Proofs.YtcglabmlhljkmaaGreat
end
