import Derived.Test.YtckdlfbbkemklaaZDvPlain2
import Derived.Test.YtckdlfbbkemklaaZDkWalk6
import Derived.Test.YtckdlfbbkemklaaZDkWalk7
/- A disk as one atom: Flush, Image, Pages, Load, Crash. -/
namespace Go.Proofs.Ytckdlfbbkemklaa
open Go Go.RowKit Go.Gv
set_option linter.unusedVariables false
set_option linter.unusedSimpArgs false

/-- all that waits is there to stay -/
def DS.fl (S : DS) : DS × Nat := if S.off = true then (S, 2) else if S.till = 0 then ({ S with off := true, till := -1 }, 2) else (⟨S.V, [], false, stopT S.till⟩, 0)
theorem disk_FlushD (p : Nat) (S : DS) (hS : S.ok) (hl : S.W.length ≤ 1000000) :
    Gv.Spec Try.prog 29 #[.pointer (some ⟨p, 0, none⟩)] [DSK p S] (fun r H' => r = .int .i64 (S.fl.2 : Int) ∧ H' = [DSK p S.fl.1]) := fun w0 w H hw => by
  obtain ⟨a, vw, W, hW, h1⟩ := dsk_open hw
  have hWl := WP2_len hW
  refine (disk_Flush p a vw S.A W S.off S.till hS.1 (WP2_ok hS hW) (by omega) hS.2.1 w0 w H h1).mono ?_
  intro e w' he
  cases e with
  | returned v =>
    obtain ⟨H', hR, h2⟩ := he
    refine ⟨[DSK p S.fl.1], ⟨?_, rfl⟩, ?_⟩
    · rcases hR with ⟨ho, hr, rfl⟩ | ⟨ho, ht, hr, rfl⟩ | ⟨ho, ht, hr, rfl⟩
      · rw [hr, DS.fl, if_pos ho]; rfl
      · rw [hr, DS.fl, if_neg (by rw [ho]; simp), if_pos ht]; rfl
      · rw [hr, DS.fl, if_neg (by rw [ho]; simp), if_neg ht]; rfl
    · rcases hR with ⟨ho, hr, rfl⟩ | ⟨ho, ht, hr, rfl⟩ | ⟨ho, ht, hr, rfl⟩
      · rw [DS.fl, if_pos ho]; exact dsk_close hW h2
      · rw [DS.fl, if_neg (by rw [ho]; simp), if_pos ht]; exact dsk_close (S := { S with off := true, till := -1 }) hW h2
      · rw [DS.fl, if_neg (by rw [ho]; simp), if_neg ht]
        refine dsk_close (a := a) (vw := .slice none 0 0) (S := ⟨S.V, [], false, stopT S.till⟩) (W := []) rfl ?_
        have e : S.V = flushM S.A W := by rw [← flW_WP, hW]; rfl
        rw [e]; exact h2
  | panicked c => exact he.elim
  | outgrown => exact he.elim
theorem disk_ImageD (p : Nat) (S : DS) (hS : S.ok) : Gv.Spec Try.prog 31 #[.pointer (some ⟨p, 0, none⟩)] [DSK p S] (fun r H' => H' = [DSK p S, own 5 1 r S.A.length (B8 S.A)]) := fun w0 w H hw => by
  obtain ⟨a, vw, W, hW, h1⟩ := dsk_open hw
  refine (disk_Image p a vw S.A S.off S.till hS.1 w0 w _ h1).mono ?_
  intro e w' he
  cases e with
  | returned v =>
    obtain ⟨H', rfl, h2⟩ := he
    exact ⟨_, rfl, dsk_close hW (St.unrot (X := [blk p 132 [.slice (some ⟨a, 0, none⟩) (S.A).length (S.A).length, vw, .bool S.off, .int .i64 S.till], blk a 5 (B8 (S.A)), own 139 2 vw (W).length (WL (W)), manyRd (WT (W))]) h2)⟩
  | panicked c => exact he.elim
  | outgrown => exact he.elim
theorem disk_PagesD (p : Nat) (S : DS) (hS : S.ok) : Gv.Spec Try.prog 95 #[.pointer (some ⟨p, 0, none⟩)] [DSK p S] (fun r H' => r = .int .i64 ((S.A.length / 256 : Nat) : Int) ∧ H' = [DSK p S]) := fun w0 w H hw => by
  obtain ⟨a, vw, W, hW, h1⟩ := dsk_open hw
  refine (disk_Pages p a S.A.length vw S.off S.till hS.1 w0 w _ h1).mono ?_
  intro e w' he
  cases e with
  | returned v =>
    obtain ⟨H', ⟨hr, rfl⟩, h2⟩ := he
    exact ⟨_, ⟨hr, rfl⟩, dsk_close hW h2⟩
  | panicked c => exact he.elim
  | outgrown => exact he.elim
/-- a disk of an image -/
def DS.of (l : List UInt8) : DS := ⟨l, [], false, -1⟩
theorem DS.of_on {l : List UInt8} (h : l.length ≤ 1000000) : (DS.of l).on := ⟨⟨h, by show -1 ≤ (-1 : Int) ∧ (-1 : Int) ≤ _; omega, fun x hx => by cases hx⟩, rfl, rfl⟩
theorem DS.of_V (l : List UInt8) : (DS.of l).V = l := rfl
theorem disk_LoadD (v : Value) (l : List UInt8) (k : Nat) (hk : l.length = k * 256) (h : 8 ≤ k ∧ k ≤ 512) : SpecR Try.prog 30 #[v] (fun w => RdW w v l.length (B8 l)) (fun r H' => ∃ p, r = .tuple #[.pointer (some ⟨p, 0, none⟩), .int .i64 0] ∧ H' = [DSK p (DS.of l)]) := by
  refine SpecR.conv (disk_Load v l k hk h) (fun r H' hr => ?_)
  obtain ⟨p, a, rfl, rfl⟩ := hr
  exact ⟨_, ⟨p, rfl, rfl⟩, fun w0 w H hw => dsk_close (S := DS.of l) (W := []) rfl hw⟩
/-- power goes, and is there again -/
def DS.cr (S : DS) (F : List (Bool × UInt8)) : DS := ⟨crashM S.A (S.W.map fun x => ⟨x.1, undef, x.2⟩) F, [], false, -1⟩
theorem crash_same (A : List UInt8) (W : List WW) (F : List (Bool × UInt8)) : ∀ k, crashTo A W F k = crashTo A ((WP2 W).map fun x => ⟨x.1, undef, x.2⟩) F k
  | 0 => rfl
  | k + 1 => by
    have ih := crash_same A W F k
    have e : ((WP2 W).map fun x => (⟨x.1, undef, x.2⟩ : WW))[k]? = (W[k]?).map fun x => ⟨x.i, undef, x.b⟩ := by
      rw [WP2, List.map_map, List.getElem?_map]; rfl
    rw [crashTo, crashTo, e, ih]
    cases W[k]? <;> cases F[k]? <;> rfl
theorem crashM_same (A : List UInt8) (W : List WW) (F : List (Bool × UInt8)) : crashM A W F = crashM A ((WP2 W).map fun x => ⟨x.1, undef, x.2⟩) F := by
  unfold crashM
  rw [List.length_map, show (WP2 W).length = W.length by simp [WP2]]
  exact crash_same A W F _
theorem disk_CrashD (p : Nat) (S : DS) (vf : Value) (Ft : List (Bool × UInt8)) (h1 : PH) (hr : Rd h1 vf Ft.length (FL Ft)) (hS : S.ok) (hl : S.W.length ≤ 1000000) :
    Gv.Spec Try.prog 32 #[.pointer (some ⟨p, 0, none⟩), vf] [DSK p S, Ex h1] (fun r H' => H' = [DSK p (S.cr Ft), Ex h1]) := fun w0 w H hw => by
  obtain ⟨a, vw, W, hW, h2⟩ := dsk_open hw
  have hWl := WP2_len hW
  refine (disk_Crash p a vw S.A W S.off S.till vf Ft h1 hr hS.1 (WP2_ok hS hW) (by omega) w0 w H h2).mono ?_
  intro e w' he
  cases e with
  | returned v =>
    obtain ⟨H', rfl, h3⟩ := he
    refine ⟨_, rfl, dsk_close (a := a) (vw := .slice none 0 0) (S := S.cr Ft) (W := []) rfl ?_⟩
    have e : (S.cr Ft).A = crashM S.A W Ft := by rw [crashM_same S.A W Ft, hW]; rfl
    show St w0 w' ([blk p 132 [.slice (some ⟨a, 0, none⟩) ((S.cr Ft).A).length ((S.cr Ft).A).length, (.slice none 0 0), .bool false, .int .i64 (-1)], blk a 5 (B8 ((S.cr Ft).A)), own 139 2 (.slice none 0 0) (([] : List WW)).length (WL (([] : List WW))), manyRd (WT (([] : List WW)))] ++ _)
    rw [e]
    exact h3
  | panicked c => exact he.elim
  | outgrown => exact he.elim
end Go.Proofs.Ytckdlfbbkemklaa
