import Derived.Test.YtckdlfbbkemklaaZDvPlain
import Derived.Test.YtckdlfbbkemklaaZDkWalk4
import Derived.Test.YtckdlfbbkemklaaZDkWalk5
/- A disk as one atom: what its functions do. -/
namespace Go.Proofs.Ytckdlfbbkemklaa
open Go Go.RowKit Go.Gv
set_option linter.unusedVariables false
set_option linter.unusedSimpArgs false

/-- a disk that says S -/
def DSK (p : Nat) (S : DS) : Atom := Gv.exA (fun z : Nat × Value × { W : List WW // WP2 W = S.W } => Gv.star [blk p 132 [.slice (some ⟨z.1, 0, none⟩) (S.A).length (S.A).length, z.2.1, .bool S.off, .int .i64 S.till], blk z.1 5 (B8 (S.A)), own 139 2 z.2.1 (z.2.2.1).length (WL (z.2.2.1)), manyRd (WT (z.2.2.1))])
theorem dsk_open {w0 w : World} {H : List Atom} {p : Nat} {S : DS} (h : St w0 w (DSK p S :: H)) : ∃ a vw W, WP2 W = S.W ∧ St w0 w ([blk p 132 [.slice (some ⟨a, 0, none⟩) (S.A).length (S.A).length, vw, .bool S.off, .int .i64 S.till], blk a 5 (B8 (S.A)), own 139 2 vw (W).length (WL (W)), manyRd (WT (W))] ++ H) := by
  obtain ⟨⟨a, vw, W, hW⟩, h1⟩ := St.exA h
  exact ⟨a, vw, W, hW, St.unstar h1⟩
theorem dsk_close {w0 w : World} {H : List Atom} {p a : Nat} {vw : Value} {W : List WW} {S : DS} (hW : WP2 W = S.W) (h : St w0 w ([blk p 132 [.slice (some ⟨a, 0, none⟩) (S.A).length (S.A).length, vw, .bool S.off, .int .i64 S.till], blk a 5 (B8 (S.A)), own 139 2 vw (W).length (WL (W)), manyRd (WT (W))] ++ H)) : St w0 w (DSK p S :: H) :=
  St.toExA (A := fun z : Nat × Value × { W : List WW // WP2 W = S.W } => Gv.star [blk p 132 [.slice (some ⟨z.1, 0, none⟩) (S.A).length (S.A).length, z.2.1, .bool S.off, .int .i64 S.till], blk z.1 5 (B8 (S.A)), own 139 2 z.2.1 (z.2.2.1).length (WL (z.2.2.1)), manyRd (WT (z.2.2.1))]) (a, vw, ⟨W, hW⟩) (St.star h)
theorem WP2_ok {W : List WW} {S : DS} (h : S.ok) (hW : WP2 W = S.W) : WOk S.A.length W := fun x hx => by
  have := h.2.2 (x.i, x.b) (by rw [← hW]; exact List.mem_map.2 ⟨x, hx, rfl⟩)
  exact this
theorem WP2_len {W : List WW} {S : DS} (hW : WP2 W = S.W) : W.length = S.W.length := by rw [← hW]; simp [WP2]
theorem disk_ReadD (p : Nat) (S : DS) (i : Int) (hS : S.ok) (hl : S.W.length ≤ 1000000) :
    Gv.Spec Try.prog 140 #[.pointer (some ⟨p, 0, none⟩), .int .i64 i] [DSK p S]
    (fun r H' => (mayE S.off S.A.length i ≠ 0 ∧ r = .tuple #[.slice none 0 0, .int .i64 (mayE S.off S.A.length i : Int)] ∧ H' = [DSK p S])
      ∨ (mayE S.off S.A.length i = 0 ∧ ∃ v, r = .tuple #[v, .int .i64 0] ∧ H' = [DSK p S, own 5 1 v 64 (B8 (sec S.V i.toNat))])) := fun w0 w H hw => by
  obtain ⟨a, vw, W, hW, h1⟩ := dsk_open hw
  have hWl := WP2_len hW
  refine (disk_Read p a vw S.A W S.off S.till i hS.1 (WP2_ok hS hW) (by omega) w0 w H h1).mono ?_
  intro e w' he
  cases e with
  | returned v =>
    obtain ⟨H', hR, h2⟩ := he
    rcases hR with ⟨hm, hr, rfl⟩ | ⟨hm, u, hr, rfl⟩
    · exact ⟨_, .inl ⟨hm, hr, rfl⟩, dsk_close hW h2⟩
    · obtain ⟨_, hi0, hi1⟩ := mayD_ok hm
      have e1 : readM S.A W i = sec S.V i.toNat := by
        have := readM_sec (WP2_ok hS hW) i.toNat
        rw [show ((i.toNat : Nat) : Int) = i by omega] at this
        rw [this, ← flW_WP, hW]; rfl
      have hVl := DS.V_length hS
      have e2 : (sec S.V i.toNat).length = 64 := sec_length (by omega)
      rw [e1, e2] at h2
      exact ⟨_, .inr ⟨hm, u, hr, rfl⟩, dsk_close hW (St.unrot h2)⟩
  | panicked c => exact he.elim
  | outgrown => exact he.elim
theorem disk_WriteD (p : Nat) (S : DS) (i : Int) (v : Value) (b : List UInt8) (h1 : PH) (hr : Rd h1 v b.length (B8 b)) (hS : S.ok) (hl : S.W.length ≤ 1000000) :
    Gv.Spec Try.prog 121 #[.pointer (some ⟨p, 0, none⟩), .int .i64 i, v] [DSK p S, Ex h1]
    (fun r H' => r = .int .i64 ((S.wr i b).2 : Int) ∧ H' = [DSK p (S.wr i b).1, Ex h1]) := fun w0 w H hw => by
  obtain ⟨a, vw, W, hW, h2⟩ := dsk_open hw
  have hWl := WP2_len hW
  refine (disk_Write p a vw S.A W S.off S.till i v b h1 hr hS.1 (by omega) hS.2.1 w0 w H h2).mono ?_
  intro e w' he
  cases e with
  | returned u =>
    obtain ⟨H', hR, h3⟩ := he
    refine ⟨[DSK p (S.wr i b).1, Ex h1], ⟨?_, rfl⟩, ?_⟩
    · rcases hR with ⟨hm, hr, rfl⟩ | ⟨hm, hb, hr, rfl⟩ | ⟨hm, hb, ht, hr, rfl⟩ | ⟨hm, hb, ht, hr, vw', vc, rfl⟩
      · rw [hr, DS.wr, if_pos hm]
      · rw [hr, DS.wr, if_neg (by rw [hm]; simp), if_pos hb]; rfl
      · rw [hr, DS.wr, if_neg (by rw [hm]; simp), if_neg (by rw [hb]; simp), if_pos ht]; rfl
      · rw [hr, DS.wr, if_neg (by rw [hm]; simp), if_neg (by rw [hb]; simp), if_neg ht]; rfl
    · rcases hR with ⟨hm, hr, rfl⟩ | ⟨hm, hb, hr, rfl⟩ | ⟨hm, hb, ht, hr, rfl⟩ | ⟨hm, hb, ht, hr, vw', vc, rfl⟩
      · rw [DS.wr, if_pos hm]; exact dsk_close hW h3
      · rw [DS.wr, if_neg (by rw [hm]; simp), if_pos hb]; exact dsk_close hW h3
      · rw [DS.wr, if_neg (by rw [hm]; simp), if_neg (by rw [hb]; simp), if_pos ht]
        exact dsk_close (S := { S with off := true, till := -1 }) hW h3
      · rw [DS.wr, if_neg (by rw [hm]; simp), if_neg (by rw [hb]; simp), if_neg ht]
        refine dsk_close (S := { S with W := S.W ++ [(i.toNat, b)], till := stopT S.till }) (W := W ++ [⟨i.toNat, vc, b⟩]) (by simp [WP2, ← hW]) h3
  | panicked c => exact he.elim
  | outgrown => exact he.elim
end Go.Proofs.Ytckdlfbbkemklaa
