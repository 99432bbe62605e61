import Derived.Test.YtckdlfbbkemklaaZGvSeat
/- From a law's walk to its row: what the row's frame asks. -/
namespace Go.Gv
open Go Go.RowKit
set_option linter.unusedVariables false

theorem below_of_st {w w' : World} {H : List Atom} (h : St w w' (H ++ [Ex (hp w)])) : Below w.heap.size w w' :=
  ⟨h.1.os, h.1.tape, h.1.output, h.1.size, (Sat.exhp (av := fun _ => True) h.2).1⟩

/-- what a law's walk shows -/
def LawR (w : World) : Value → World → Prop := fun v w' => ∃ H', (fun v (_ : List Atom) => v = .bool true) v H' ∧ St w w' (H' ++ [Ex (hp w)])

theorem law_calls {P : Program} {f : FuncId} {args : Array Value} {w : World} (h : Calls P f args w (Ret (LawR w))) : Calls P f args w fun e w' => e = .returned (.bool true) ∧ Below w.heap.size w w' :=
  h.mono fun e w' he => by
    cases e with
    | returned v => obtain ⟨H', rfl, hs⟩ := he; exact ⟨rfl, below_of_st hs⟩
    | panicked c => exact he.elim
    | outgrown => exact he.elim

theorem fin_law {H R F : List Atom} (w : World) (p : Pulls H (F ++ [Ex (hp w)]) R) (v : Value) (hv : v = .bool true) : ∀ w', St w w' H → LawR w v w' := fun w' hw => ⟨F, hv, (hw.pulls p).1, Sat.left (hw.pulls p).2⟩

/-- numbers that came in, as bytes -/
theorem rdw_bytes {w : World} {a : Option Addr} {len cap : Nat} {zs : List Int}
    (h : (a = none ∧ len = 0 ∧ cap = 0 ∧ zs = []) ∨ ∃ x, a = some x ∧ len ≤ cap ∧ cap ≤ maxLen ∧ zs.length = cap ∧ (∀ i, i < zs.length → w.cell? (x.add i) = some (.int .u8 (zs.getD i 0))) ∧ ∀ n ∈ zs, (Lit.int .u8 n).wf = true) :
    ∃ l : List UInt8, l.length = len ∧ RdW w (.slice a len cap) len (l.map fun c => .int .u8 (c.toNat : Int)) := by
  rcases h with ⟨rfl, rfl, rfl, rfl⟩ | ⟨x, rfl, h1, h2, h3, h4, h5⟩
  · exact ⟨[], rfl, none, 0, rfl, ⟨Nat.le_refl _, Nat.zero_le _⟩, fun j u hu => by simp at hu⟩
  · refine ⟨(zs.take len).map fun n => UInt8.ofNat n.toNat, by simp; omega, some x, cap, rfl, ⟨h1, h2⟩, fun j u hu => ?_⟩
    simp only [List.map_map, List.getElem?_map, Option.map_eq_some_iff] at hu
    obtain ⟨n, hn, rfl⟩ := hu
    rw [List.getElem?_take] at hn
    split at hn
    · rename_i hj
      have hlt : j < zs.length := (List.getElem?_eq_some_iff.1 hn).1
      have hc := h4 j hlt
      have hnm : zs.getD j 0 = n := by rw [List.getD_eq_getElem?_getD, hn]; rfl
      rw [hnm] at hc
      have hwf := h5 n (List.mem_of_getElem? hn)
      have hr : 0 ≤ n ∧ n ≤ 255 := by
        have hwf' : IntKind.u8.min ≤ n ∧ n ≤ IntKind.u8.max := by simpa [Lit.wf] using hwf
        exact hwf'
      have hbk : ((UInt8.ofNat n.toNat).toNat : Int) = n := by simp; omega
      refine ⟨x, rfl, ?_⟩
      have hbb : (x.add j).block = x.block := by unfold Addr.add; split <;> rfl
      unfold World.cell? at hc
      rw [hbb] at hc
      cases hq : w.heap[x.block]? with
      | none => simp [hq] at hc
      | some o =>
        cases o with
        | cells cs T fr =>
          simp only [hq] at hc
          split at hc
          · cases hc
          · rename_i hs
            refine ⟨cs, T, fr, hq, by simpa using hs, ?_⟩
            show cs[(x.add j).off]? = some (.int .u8 ((UInt8.ofNat n.toNat).toNat : Int))
            rw [hbk]; exact hc
        | _ => simp [hq] at hc
    · cases hn
/-- numbers that came in -/
theorem rdw_ints {k : IntKind} {w : World} {a : Option Addr} {len cap : Nat} {zs : List Int}
    (h : (a = none ∧ len = 0 ∧ cap = 0 ∧ zs = []) ∨ ∃ x, a = some x ∧ len ≤ cap ∧ cap ≤ maxLen ∧ zs.length = cap ∧ (∀ i, i < zs.length → w.cell? (x.add i) = some (.int k (zs.getD i 0))) ∧ ∀ n ∈ zs, (Lit.int k n).wf = true) :
    ∃ l : List Int, l.length = len ∧ (∀ n ∈ l, k.min ≤ n ∧ n ≤ k.max) ∧ RdW w (.slice a len cap) len (l.map (.int k)) := by
  rcases h with ⟨rfl, rfl, rfl, rfl⟩ | ⟨x, rfl, h1, h2, h3, h4, h5⟩
  · exact ⟨[], rfl, by simp, none, 0, rfl, ⟨Nat.le_refl _, Nat.zero_le _⟩, fun j u hu => by simp at hu⟩
  · refine ⟨zs.take len, by simp; omega, fun n hn => by simpa [Lit.wf] using h5 n (List.mem_of_mem_take hn), some x, cap, rfl, ⟨h1, h2⟩, fun j u hu => ?_⟩
    simp only [List.getElem?_map, Option.map_eq_some_iff] at hu
    obtain ⟨n, hn, rfl⟩ := hu
    rw [List.getElem?_take] at hn
    split at hn
    · rename_i hj
      have hlt : j < zs.length := (List.getElem?_eq_some_iff.1 hn).1
      have hc := h4 j hlt
      have hnm : zs.getD j 0 = n := by rw [List.getD_eq_getElem?_getD, hn]; rfl
      rw [hnm] at hc
      refine ⟨x, rfl, ?_⟩
      have hbb : (x.add j).block = x.block := by unfold Addr.add; split <;> rfl
      unfold World.cell? at hc
      rw [hbb] at hc
      cases hq : w.heap[x.block]? with
      | none => simp [hq] at hc
      | some o =>
        cases o with
        | cells cs T fr =>
          simp only [hq] at hc
          split at hc
          · cases hc
          · rename_i hs
            exact ⟨cs, T, fr, hq, by simpa using hs, hc⟩
        | _ => simp [hq] at hc
    · cases hn
end Go.Gv
