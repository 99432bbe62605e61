/- A row that is done joins the texts that are only read. -/
import Derived.Test.YtmomlimhjnfadaaGvSpec
namespace Go.Gv
open Go Go.RowKit
set_option linter.unusedVariables false

section
variable {P : Program} {w0 : World} {n : NT} {L : Slots} {H H' H1 H2 : List Atom} {Q : Exit → Act → World → Prop} {K : Act → World → Prop} {d : Nat}
variable {ty : TypeId} {pos : String} {aft : Array Edge} {g : Option (Nat × Bool)}
theorem blk_Rd {g : Nat} {T : TypeId} {cur xs : List Value} {m cap : Nat} {h : PH} (hb : blk g T cur h) (hc : m ≤ cap ∧ cap ≤ 9223372036854775807) (hx : cur.take xs.length = xs) : Rd h (.slice (some ⟨g, 0, none⟩) m cap) m xs := by
  refine ⟨_, cap, rfl, ⟨hc.1, by unfold maxLen; omega⟩, fun j u hu => ⟨_, rfl, cur.toArray, T, (0, 0), hb, by rw [Addr.add_lit], ?_⟩⟩
  rw [Addr.add_lit]
  have hj : j < xs.length := (List.getElem?_eq_some_iff.1 hu).1
  rw [← hx, List.getElem?_take, if_pos hj] at hu
  simpa using hu
theorem Tri.joinB {G : Act → World → Prop} {g : Nat} {T : TypeId} {cur : List Value} {l : List (Value × Nat × List Value)} (xs : List Value) (m cap : Nat) (hc : m ≤ cap ∧ cap ≤ 9223372036854775807) (hx : cur.take xs.length = xs) (pA : Pull H (manyRd l) H1) (pB : Pull H1 (blk g T cur) H2) (k : Tri w0 G n L (manyRd (l ++ [(.slice (some ⟨g, 0, none⟩) m cap, m, xs)]) :: H2)) : Tri w0 G n L H :=
  Tri.merge pA pB (fun w s1 s2 _ h1 h2 => manyRd_add w s1 s2 h1 (blk_Rd h2 hc hx)) k
/-- places and cells of slices that read, however they are known to -/
theorem o_ixW {T e : TypeId} {size : Nat} {x y : Operand} {v : Value} {m : Nat} {xs : List Value} {ik : IntKind} {i : Int} {j : Nat} [hT : TSlice P T e] [hs : TSize P e size] (hx : ev L x = some v) (hy : ev L y = some (.int ik i)) (hr : ∀ w, St w0 w H → RdW w v m xs) (hj : i = (j : Int)) (hlt : j < m) (hl : j * size < xs.length) (hn : Nat.blt d n = true) (k : Tri w0 K n ((d, .pointer (some (eaddr v (j * size)))) :: L) H) :
    Tri w0 (OpG P ⟨some d, .indexAddr T x y, ty, pos, aft, g⟩ K Q) n L H :=
  Tri.val rfl hn _ (fun a w ha hw => by
    subst hj
    obtain ⟨A, c, hv, hc, h3⟩ := hr w hw
    obtain ⟨a', rfl, _⟩ := h3 (j * size) _ (List.getElem?_eq_getElem hl)
    simp [execOp, ha.eval hx, ha.eval hy, ix_run (P := P) (T := T) (w := w) (ik := ik) hv rfl hlt]) k
theorem rdw_cell {w : World} {v : Value} {m : Nat} {xs : List Value} (hr : RdW w v m xs) {j : Nat} {u : Value} (hu : xs[j]? = some u) : w.cell? (eaddr v j) = some u := by
  have : hp w = res w (fun _ => True) := by funext b; simp [hp, res]
  rw [RdW, this] at hr
  exact hr.cell hu
theorem o_loadW {T : TypeId} {x : Operand} {u v : Value} {m j : Nat} {xs : List Value} [TPlain P T] (hx : ev L x = some (.pointer (some (eaddr u j)))) (hr : ∀ w, St w0 w H → RdW w u m xs) (hv : xs[j]? = some v) (hn : Nat.blt d n = true) (k : Tri w0 K n ((d, v) :: L) H) :
    Tri w0 (OpG P ⟨some d, .load T x, ty, pos, aft, g⟩ K Q) n L H :=
  Tri.val rfl hn v (fun a w ha hw => by
    simp [execOp, ha.eval hx, Instr.loadAt, Instr.sureAddr, load_cell (P := P) (T := T) (rdw_cell (hr w hw) hv)]) k
theorem o_lenW {T e : TypeId} {x : Operand} {v : Value} {m : Nat} {xs : List Value} [TSlice P T e] (hx : ev L x = some v) (hr : ∀ w, St w0 w H → RdW w v m xs) (hn : Nat.blt d n = true) (k : Tri w0 K n ((d, .int .i64 (m : Int)) :: L) H) :
    Tri w0 (OpG P ⟨some d, .call { callee := .builtin .len, args := #[x], argTypes := #[T] }, ty, pos, aft, g⟩ K Q) n L H :=
  Tri.val rfl hn _ (fun a w ha hw => by
    obtain ⟨A, c, rfl, _, _⟩ := hr w hw
    simp [execOp, resolve, invoke, builtin, ha.eval hx, len_run (P := P) (T := T)]) k
theorem o_loadAggW {T : TypeId} {sz : Nat} {x : Operand} {u : Value} {m i : Nat} {xs ys : List Value} [TAgg P T sz] (hx : ev L x = some (.pointer (some (eaddr u i)))) (hr : ∀ w, St w0 w H → RdW w u m xs) (hv : (xs.drop i).take sz = ys) (hl : ys.length = sz) (hn : Nat.blt d n = true) (k : Tri w0 K n ((d, .agg ys.toArray) :: L) H) :
    Tri w0 (OpG P ⟨some d, .load T x, ty, pos, aft, g⟩ K Q) n L H :=
  Tri.val rfl hn _ (fun a w ha hw => by
    have hq : (loadVar T (eaddr u i)).run P w = .ok (.agg ys.toArray) w := load_agg hl (fun j v hj => by
      rw [← hv, List.getElem?_take] at hj
      split at hj
      · rw [List.getElem?_drop] at hj
        rw [eaddr_add]
        exact rdw_cell (hr w hw) hj
      · cases hj)
    simp [execOp, ha.eval hx, Instr.loadAt, Instr.sureAddr, hq]) k
theorem o_min3 {ts : Array TypeId} {x y z : Operand} {k1 k2 k3 : IntKind} {i j p : Int} (hx : ev L x = some (.int k1 i)) (hy : ev L y = some (.int k2 j)) (hz : ev L z = some (.int k3 p)) (hn : Nat.blt d n = true) (hk : k1 = k2 ∧ k1 = k3) (k : Tri w0 K n ((d, .int k1 (min (min i j) p)) :: L) H) :
    Tri w0 (OpG P ⟨some d, .call { callee := .builtin .min, args := #[x, y, z], argTypes := ts }, ty, pos, aft, g⟩ K Q) n L H :=
  Tri.val rfl hn _ (fun a w ha _ => by
    obtain ⟨e1, e2⟩ := hk
    subst e1; subst e2
    have e : ∀ a b : Int, (if b < a then b else a) = min a b := by
      intro a b
      split
      · rw [Int.min_eq_right (by omega)]
      · rw [Int.min_eq_left (by omega)]
    simp [execOp, resolve, invoke, builtin, ha.eval hx, ha.eval hy, ha.eval hz, Builtin.min_, Builtin.min2, e]) k
theorem Sat.pure1 {w : World} {A : Atom} (hA : ∀ h, A h) {av : Nat → Prop} {H : List Atom} (hs : Sat w av H) : Sat w av (A :: H) :=
  ⟨fun _ => False, fun _ h => h.elim, hA _, hs.mono (fun _ _ hb => ⟨hb, fun h => h⟩)⟩
theorem St.pure1 {w : World} {A : Atom} (hA : ∀ h, A h) {H : List Atom} (hw : St w0 w H) : St w0 w (A :: H) := ⟨hw.1, Sat.pure1 hA hw.2⟩
theorem St.pure2 {w : World} {A B : Atom} (hA : ∀ h, A h) {H : List Atom} (hw : St w0 w (B :: H)) : St w0 w (B :: A :: H) := ⟨hw.1, Sat.under (fun av hs => Sat.pure1 hA hs) _ hw.2⟩
theorem SpecR.conv {P : Program} {f : FuncId} {args : Array Value} {Pre : World → Prop} {R R' : Value → List Atom → Prop} (h : SpecR P f args Pre R) (hR : ∀ r H', R r H' → ∃ H'', R' r H'' ∧ ∀ w0 w H, St w0 w (H' ++ H) → St w0 w (H'' ++ H)) : SpecR P f args Pre R' := fun w0 w H hw hp => by
  refine (h w0 w H hw hp).mono ?_
  intro e w' he
  cases e with
  | returned v => obtain ⟨H', g1, g2⟩ := he; obtain ⟨H'', g3, g4⟩ := hR _ _ g1; exact ⟨H'', g3, g4 _ _ _ g2⟩
  | panicked c => exact he.elim
  | outgrown => exact he.elim
end
end Go.Gv
