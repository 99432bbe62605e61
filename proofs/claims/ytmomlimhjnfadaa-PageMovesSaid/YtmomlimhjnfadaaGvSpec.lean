/- Contracts of functions that change memory: the way to prove one. And some rules more. -/
import Derived.Test.YtmomlimhjnfadaaGvJoin
namespace Go.Gv
open Go Go.RowKit
set_option linter.unusedVariables false
set_option linter.unusedSimpArgs false

theorem Sat.cut {w : World} : ∀ {As H : List Atom} {av : Nat → Prop}, Sat w av (As ++ H) → ∃ s : Nat → Prop, (∀ b, s b → av b ∧ b < w.heap.size) ∧ Sat w s H ∧ Sat w av (As ++ [Ex (res w s)])
  | [], H, av, h => ⟨fun b => av b ∧ b < w.heap.size, fun _ hb => hb, h.lt, fun b => av b ∧ b < w.heap.size, fun _ hb => hb, rfl, trivial⟩
  | A :: As, H, av, ⟨t, h1, h2, h3⟩ => by
    obtain ⟨s, g1, g2, g3⟩ := Sat.cut (As := As) h3
    exact ⟨s, fun b hb => ⟨(g1 b hb).1.1, (g1 b hb).2⟩, g2, t, h1, h2, g3⟩
theorem Sat.uncut {w w' : World} {s : Nat → Prop} (hs : ∀ b, s b → b < w.heap.size) : ∀ (H : List Atom) (av : Nat → Prop), Sat w' av (H ++ [Ex (res w s)]) → (∀ b, s b → w'.heap[b]? = w.heap[b]? ∧ av b) ∧ Sat w' (fun b => av b ∧ ¬ s b) H
  | [], av, h => by
    obtain ⟨t, h1, h2, _⟩ := h
    have h2' : res w' t = res w s := h2
    refine ⟨fun b hb => ?_, trivial⟩
    have e := congrFun h2' b
    unfold res at e
    rw [if_pos hb] at e
    split at e
    · exact ⟨e, (h1 b ‹_›).1⟩
    · have := hs b hb
      simp [this] at e
  | A :: H, av, h => by
    obtain ⟨t, h1, h2, h3⟩ := h
    obtain ⟨g1, g2⟩ := Sat.uncut hs H _ h3
    exact ⟨fun b hb => ⟨(g1 b hb).1, (g1 b hb).2.1⟩, t, fun b hb => ⟨⟨(h1 b hb).1, fun hl => (g1 b hl).2.2 hb⟩, (h1 b hb).2⟩, h2, g2.mono (fun b _ hb => ⟨⟨hb.1.1, hb.2⟩, hb.1.2⟩)⟩
theorem Spec.of {P : Program} {f : FuncId} {args : Array Value} {Pre : List Atom} {R : Value → List Atom → Prop}
    (h : ∀ w h0, St w w (Pre ++ [Ex h0]) → Calls P f args w (Ret fun v w' => ∃ H', R v H' ∧ St w w' (H' ++ [Ex h0]))) : Spec P f args Pre R := fun w0 w H hw => by
  obtain ⟨s, h1, h2, h3⟩ := Sat.cut hw.2
  refine (h w _ ⟨Env.refl w, h3⟩).mono ?_
  intro e w' he
  cases e with
  | returned v =>
    obtain ⟨H', g1, g2⟩ := he
    obtain ⟨k1, k2⟩ := Sat.uncut (fun b hb => (h1 b hb).2) H' _ g2.2
    refine ⟨H', g1, hw.1.trans g2.1, Sat.append (av1 := fun b => True ∧ ¬ s b) (av2 := s) (fun _ _ => trivial) (fun _ _ => trivial) (fun b x y => x.2 y) k2 ?_⟩
    exact Sat.congr (w := w) g2.1.size (fun b hb _ => (k1 b hb).1) h2
  | panicked c => exact he.elim
  | outgrown => exact he.elim

theorem Spec.mono {P : Program} {f : FuncId} {args : Array Value} {Pre : List Atom} {R R' : Value → List Atom → Prop} (h : Gv.Spec P f args Pre R) (hR : ∀ r H', R r H' → R' r H') : Gv.Spec P f args Pre R' := fun w0 w H hw => by
  refine (h w0 w H hw).mono ?_
  intro e w' he
  cases e with
  | returned v => obtain ⟨H', g1, g2⟩ := he; exact ⟨H', hR _ _ g1, g2⟩
  | panicked c => exact he.elim
  | outgrown => exact he.elim
section
variable {P : Program} {w0 : World} {n : NT} {L : Slots} {H H' H1 H2 : List Atom} {Q : Exit → Act → World → Prop} {K : Act → World → Prop} {o : Oper} {d : Nat}
variable {ty : TypeId} {pos : String} {aft : Array Edge} {g : Option (Nat × Bool)}
theorem rd_none {h : PH} {m c : Nat} {xs : List Value} (hr : Rd h (.slice none m c) m xs) : xs = [] := by
  obtain ⟨A', c', hv', _, hcell⟩ := hr
  cases hv'
  cases xs with
  | nil => rfl
  | cons y ys => obtain ⟨a, ha, _⟩ := hcell 0 y rfl; cases ha
theorem eqlSN_run {t e : TypeId} [ht : TSlice P t e] (w : World) (A : Option Addr) (m c : Nat) : (binOp .eql t (.slice A m c) (.slice none 0 0)).run P w = .ok (.bool A.isNone) w := by
  have h : ∀ d : Nat, (Op.equalIn (d + 1) t (.slice A m c) (.slice none 0 0)).run P w = .ok A.isNone w := fun d => by
    cases A <;> simp [Op.equalIn, run_underlying ht.ok]
  simp only [binOp]
  simp [Op.equal, Op.maxDepth, h 9999]
/-- a slice beside nil -/
theorem o_eqlSN {t e t2 : TypeId} {x y : Operand} {v : Value} {m : Nat} {xs : List Value} [ht : TSlice P t e] (hx : ev L x = some v) (hy : ev L y = some (.slice none 0 0)) (hr : ∀ w, St w0 w H → RdW w v m xs) (hn : Nat.blt d n = true)
    (k : ∀ b : Bool, (b = true → xs = []) → Tri w0 K n ((d, .bool b) :: L) H) :
    Tri w0 (OpG P ⟨some d, .binOp .eql t x y t2, ty, pos, aft, g⟩ K Q) n L H :=
  Tri.valW rfl hn (fun a w ha hw => by
    obtain ⟨A, c, rfl, hc, _⟩ := id (hr w hw)
    refine ⟨.bool A.isNone, w, ?_, fun a' ha' => k A.isNone (fun hA => ?_) a' w ha' hw⟩
    · simp only [execOp, ha.eval hx, ha.eval hy]
      simp [eqGuard, eqlSN_run (P := P) (t := t)]
    · cases A with
      | none => exact rd_none (hr w hw)
      | some a => cases hA)
/-- some cells of a row that is owned -/
theorem o_loadAggOwn {T e : TypeId} {sz m i size : Nat} {x : Operand} {u : Value} {xs ys : List Value} [TAgg P T sz] (hx : ev L x = some (.pointer (some (eaddr u i)))) (p : Pull H (own e size u m xs) H') (hv : (xs.drop i).take sz = ys) (hl : ys.length = sz) (hn : Nat.blt d n = true) (k : Tri w0 K n ((d, .agg ys.toArray) :: L) H) :
    Tri w0 (OpG P ⟨some d, .load T x, ty, pos, aft, g⟩ K Q) n L H :=
  Tri.val rfl hn _ (fun a w ha hw => by
    obtain ⟨s, hs⟩ := (hw.pull p).2.head
    have hr := own_Rd hs
    have hq : (loadVar T (eaddr u i)).run P w = .ok (.agg ys.toArray) w := load_agg hl (fun j v hj => by
      rw [← hv, List.getElem?_take] at hj
      split at hj
      · rw [List.getElem?_drop] at hj
        rw [eaddr_add]
        exact hr.cell hj
      · cases hj)
    simp [execOp, ha.eval hx, Instr.loadAt, Instr.sureAddr, hq]) k
theorem rdw_blkAt {b o' : Nat} {T : TypeId} {cur xs : List Value} {m cap : Nat} (p : Pull H (blk b T cur) H') (hc : m ≤ cap ∧ cap ≤ 9223372036854775807) (hx : (cur.drop o').take xs.length = xs) : ∀ w, St w0 w H → RdW w (.slice (some ⟨b, o', none⟩) m cap) m xs := fun w hw => by
  obtain ⟨s, hs⟩ := (hw.pull p).2.head
  have hb := (res_some hs).2
  refine ⟨_, cap, rfl, hc, fun j u hu => ⟨_, rfl, _, _, _, hb, ?_, ?_⟩⟩
  · rw [Addr.add_lit]
  · rw [Addr.add_lit]
    rw [← hx, List.getElem?_take] at hu
    split at hu
    · rw [List.getElem?_drop] at hu; simpa using hu
    · cases hu
/-- what is owned, held as the very memory that it is -/
theorem Tri.shut {G : Act → World → Prop} {e : TypeId} {size m : Nat} {v : Value} {xs : List Value} (p : Pull H (own e size v m xs) H') (k : ∀ h0, own e size v m xs h0 → Tri w0 G n L (Ex h0 :: H')) : Tri w0 G n L H := Tri.open p k
/-- a text that is owned joins the others -/
theorem Tri.join {G : Act → World → Prop} {e : TypeId} {m : Nat} {v : Value} {xs : List Value} {l : List (Value × Nat × List Value)} (pA : Pull H (manyRd l) H1) (pB : Pull H1 (own e 1 v m xs) H2) (k : Tri w0 G n L (manyRd (l ++ [(v, m, xs)]) :: H2)) : Tri w0 G n L H :=
  Tri.merge pA pB (fun w s1 s2 _ h1 h2 => manyRd_add w s1 s2 h1 (own_Rd h2)) k
theorem own_one {e : TypeId} {size m : Nat} {v : Value} {xs : List Value} {h : PH} (ho : own e size v m xs h) : ∃ A c, v = .slice A m c := by
  rcases ho.2 with ⟨rfl, rfl⟩ | ⟨g', cap, cur, hv, _⟩
  · exact ⟨none, 0, rfl⟩
  · exact ⟨_, cap, hv⟩
theorem Tri.shape {G : Act → World → Prop} {e : TypeId} {size m : Nat} {v : Value} {xs : List Value} (p : Pull H (own e size v m xs) H') (k : (∃ A c, v = .slice A m c) → Tri w0 G n L H) : Tri w0 G n L H := Tri.know p (fun h ho => own_one ho) (fun hv => k hv)
end
end Go.Gv
