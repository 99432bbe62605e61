import Derived.Test.YtckdlfbbkemklaaZGvRead
/- What came in: numbers, bytes, truths in a row; maps. -/
namespace Go.Gv
open Go Go.RowKit
set_option linter.unusedVariables false
set_option linter.unusedSimpArgs false

theorem flat_ints {k : IntKind} : ∀ {Ls : List (List Value)}, (∀ ys ∈ Ls, ∃ n, ys = [.int k n] ∧ k.min ≤ n ∧ n ≤ k.max) → ∃ l : List Int, l.length = Ls.length ∧ (∀ n ∈ l, k.min ≤ n ∧ n ≤ k.max) ∧ Ls.flatten = l.map (.int k)
  | [], _ => ⟨[], rfl, by simp, rfl⟩
  | ys :: Ls, h => by
    obtain ⟨l, h1, h2, h3⟩ := flat_ints (Ls := Ls) (fun zs hz => h zs (List.mem_cons_of_mem _ hz))
    obtain ⟨n, rfl, hn⟩ := h ys (by simp)
    exact ⟨n :: l, by simp [h1], fun x hx => by rcases List.mem_cons.1 hx with rfl | hx; exact hn; exact h2 x hx, by rw [List.flatten_cons, h3]; rfl⟩
theorem flat_bools : ∀ {Ls : List (List Value)}, (∀ ys ∈ Ls, ∃ b, ys = [.bool b]) → ∃ l : List Bool, l.length = Ls.length ∧ Ls.flatten = l.map .bool
  | [], _ => ⟨[], rfl, rfl⟩
  | ys :: Ls, h => by
    obtain ⟨l, h1, h3⟩ := flat_bools (Ls := Ls) (fun zs hz => h zs (List.mem_cons_of_mem _ hz))
    obtain ⟨n, rfl⟩ := h ys (by simp)
    exact ⟨n :: l, by simp [h1], by rw [List.flatten_cons, h3]; rfl⟩

theorem rds_int {P : Program} {W : World} {f : Nat} {t : TypeId} {k : IntKind} (hu : P.underlying t = some (.int k)) {cs : List Value} (h : Rds P W f t cs) : ∃ n, cs = [.int k n] ∧ k.min ≤ n ∧ n ≤ k.max := by
  cases f with
  | zero => exact h.elim
  | succ f => unfold Rds at h; simpa only [hu] using h
theorem rds_bool {P : Program} {W : World} {f : Nat} {t : TypeId} (hu : P.underlying t = some .bool) {cs : List Value} (h : Rds P W f t cs) : ∃ b, cs = [.bool b] := by
  cases f with
  | zero => exact h.elim
  | succ f => unfold Rds at h; simpa only [hu] using h

theorem rds_ints {P : Program} {W : World} {t e : TypeId} {k : IntKind} (hu : P.underlying t = some (.slice e)) (he : P.underlying e = some (.int k)) (hs : P.cellsOf e = 1) {a : Option Addr} {len cap : Nat} (h : ∃ f, Rds P W f t [.slice a len cap]) :
    ∃ l : List Int, l.length = len ∧ (∀ n ∈ l, k.min ≤ n ∧ n ≤ k.max) ∧ RdW W (.slice a len cap) len (l.map (.int k)) := by
  obtain ⟨f, h⟩ := h
  cases f with
  | zero => exact h.elim
  | succ f =>
    obtain ⟨Ls, h1, h2, h3⟩ := rds_slice hu hs (by omega) h
    obtain ⟨l, g1, g2, g3⟩ := flat_ints (k := k) (fun ys hy => rds_int he (h2 ys hy).2)
    exact ⟨l, by rw [g1, h1], g2, by rw [← g3]; exact h3⟩
theorem rds_bools {P : Program} {W : World} {t e : TypeId} (hu : P.underlying t = some (.slice e)) (he : P.underlying e = some .bool) (hs : P.cellsOf e = 1) {a : Option Addr} {len cap : Nat} (h : ∃ f, Rds P W f t [.slice a len cap]) :
    ∃ l : List Bool, l.length = len ∧ RdW W (.slice a len cap) len (l.map .bool) := by
  obtain ⟨f, h⟩ := h
  cases f with
  | zero => exact h.elim
  | succ f =>
    obtain ⟨Ls, h1, h2, h3⟩ := rds_slice hu hs (by omega) h
    obtain ⟨l, g1, g3⟩ := flat_bools (fun ys hy => rds_bool he (h2 ys hy).2)
    exact ⟨l, by rw [g1, h1], by rw [← g3]; exact h3⟩
theorem bytes_of : ∀ l : List Int, (∀ n ∈ l, 0 ≤ n ∧ n ≤ 255) → ∃ b : List UInt8, b.length = l.length ∧ l.map (Value.int .u8) = b.map fun c => .int .u8 (c.toNat : Int)
  | [], _ => ⟨[], rfl, rfl⟩
  | n :: l, h => by
    obtain ⟨b, h1, h2⟩ := bytes_of l (fun m hm => h m (by simp [hm]))
    have hn := h n (by simp)
    refine ⟨UInt8.ofNat n.toNat :: b, by simp [h1], ?_⟩
    rw [List.map_cons, List.map_cons, h2]
    congr 2
    simp; omega
theorem rds_bytes {P : Program} {W : World} {t e : TypeId} (hu : P.underlying t = some (.slice e)) (he : P.underlying e = some (.int .u8)) (hs : P.cellsOf e = 1) {a : Option Addr} {len cap : Nat} (h : ∃ f, Rds P W f t [.slice a len cap]) :
    ∃ l : List UInt8, l.length = len ∧ RdW W (.slice a len cap) len (l.map fun c => .int .u8 (c.toNat : Int)) := by
  obtain ⟨l, h1, h2, h3⟩ := rds_ints hu he hs h
  obtain ⟨b, g1, g2⟩ := bytes_of l (fun n hn => h2 n hn)
  exact ⟨b, by rw [g1, h1], by rw [← g2]; exact h3⟩

/-- an array of truths -/
theorem rds_boolArr {P : Program} {W : World} {t e : TypeId} {n : Nat} (hu : P.underlying t = some (.array n e)) (he : P.underlying e = some .bool) (hs : P.cellsOf e = 1) (ht : P.cellsOf t = n) {f : Nat} {cs : List Value} (h : Rds P W f t cs) :
    ∃ l : List Bool, l.length = n ∧ cs = l.map .bool := by
  cases f with
  | zero => exact h.elim
  | succ f =>
    unfold Rds at h
    simp only [hu, hs, ht] at h
    obtain ⟨hl, h⟩ := h
    obtain ⟨l, l1, l2⟩ := choice_list (p := fun i b => cs[i]? = some (.bool b)) n (fun i hi => by
      obtain ⟨b, hb⟩ := rds_bool he (h i hi)
      refine ⟨b, ?_⟩
      rw [Nat.mul_one] at hb
      have : ((cs.drop i).take 1)[0]? = some (.bool b) := by rw [hb]; rfl
      rw [List.getElem?_take, if_pos (by omega), List.getElem?_drop, Nat.add_zero] at this
      exact this)
    refine ⟨l, l1, List.ext_getElem? (fun i => ?_)⟩
    rw [List.getElem?_map]
    by_cases hi : i < n
    · have hi2 : i < l.length := by omega
      rw [List.getElem?_eq_getElem hi2, l2 i _ (List.getElem?_eq_getElem hi2)]
      rfl
    · rw [List.getElem?_eq_none (by omega), List.getElem?_eq_none (l := l) (by omega)]
      rfl
end Go.Gv
