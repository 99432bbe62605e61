import Derived.Test.YtckdlfbbkemklaaRows
import Derived.Test.YtckdlfbbkemklaaZSpTearsWalk
import Derived.Test.YtckdlfbbkemklaaZSpRead2
import Derived.Test.YtckdlfbbkemklaaZGvRead
import Derived.Test.YtckdlfbbkemklaaZGvLaw
import Derived.WalkKit
import Derived.ProofKit
import Derived.OpenShut
import Derived.ShutString
import Derived.ChangeOld
import Derived.Below
import Derived.Carry
/- Of two generations one behind the other, however the writing of the second one is torn, the first one counts, or the second one: for every input the law returns true and writes nothing that was there; no condition. -/
namespace Go.Proofs.Ytckdlfbbkemklaa.superTears
open Go.Gv
open Go.ChangeShapes Go.WideShapes Go.ChangeAt Go.RowKit
set_option linter.unusedVariables false

theorem own : ownKnob Try.prog.godebug = none := by kernel_rfl
theorem laidOut : laidOutB Try.prog = true := by kernel_rfl

theorem walk (w : World) (c0 : Array Value) (r0 : ∃ f, Rds Try.prog w f 42 c0.toList) (c1 : Array Value) (r1 : ∃ f, Rds Try.prog w f 42 c1.toList) (c2 : Array Value) (r2 : ∃ f, Rds Try.prog w f 72 c2.toList) :
    Calls Try.prog 6 #[.agg c0, .agg c1, .agg c2] w fun e w' => e = .returned (.bool true) ∧ Below w.heap.size w w' := by
  obtain ⟨s, hg, hc⟩ := rds_super r0
  obtain rfl : c0 = (spL s).toArray := by rw [← hc]
  obtain ⟨t, hg2, hc2⟩ := rds_super r1
  obtain rfl : c1 = (spL t).toArray := by rw [← hc2]
  obtain ⟨k0, k1, k2, k3, k4, k5, k6, k7, hc3⟩ := rds_eight r2
  obtain rfl : c2 = [Value.int .u8 (k0.toNat : Int), .int .u8 (k1.toNat : Int), .int .u8 (k2.toNat : Int), .int .u8 (k3.toNat : Int), .int .u8 (k4.toNat : Int), .int .u8 (k5.toNat : Int), .int .u8 (k6.toNat : Int), .int .u8 (k7.toNat : Int)].toArray := by rw [← hc3]
  exact law_calls (superTears_walk w s t hg hg2 k0 k1 k2 k3 k4 k5 k6 k7)

set_option maxRecDepth 100000 in
theorem lifted (os : Os) (started : os.Started) (H : Type) (enc : TypeId × Value → H) :
    ReturnsInHanded {} Try.checked os 6 .any (Rows.superTearsSpec.pre6 enc Try.prog Try.f6 Rows.superTearsRow.domain false) (Rows.superTearsSpec.post enc Try.prog Try.f6 false true false false) := by
  refine returnsInHanded_of_change (C := Try.checked) own started (by kernel_rfl) Try.func6
    (ChangeSpec.witness6 (enc := enc) (C := Try.checked) false ⟨#[], #[.agg #[.int .u64 0, .int .i64 0, .int .i64 0, .int .i64 0, .int .i64 0], .agg #[.int .u64 0, .int .i64 0, .int .i64 0, .int .i64 0, .int .i64 0], .agg #[.int .u8 0, .int .u8 0, .int .u8 0, .int .u8 0, .int .u8 0, .int .u8 0, .int .u8 0, .int .u8 0]], []⟩ 8 (by kernel_rfl) (by kernel_rfl) (by kernel_rfl) (by kernel_rfl)) ?_
  intro W base args ds gs before hval0 hW hcnd _
  have hval : ∀ (j : Nat) t v, Try.f6.params[j]? = some t → args[j]? = some v → Value.okWide Try.prog W .any base t v := hval0
  have hW' := hW
  obtain ⟨p, q, hA0, hV, rfl, hfz, hnd⟩ := hW
  have hA : DataW.TrodAll enc Try.prog W 0 (fun _ => true) true Try.f6.params.toList args.toList ds p := hA0
  rw [Try.params6] at hA hval
  obtain ⟨v0, vs0, d0, ds0, p0, q0, hargs, rfl, rfl, h0, r_0⟩ := trodAll_cons hA
  obtain ⟨v1, vs1, d1, ds1, p1, q1, rfl, rfl, rfl, h1, r_1⟩ := trodAll_cons r_0
  obtain ⟨v2, vs2, d2, ds2, p2, q2, rfl, rfl, rfl, h2, r_2⟩ := trodAll_cons r_1
  obtain ⟨rfl, rfl, rfl⟩ := trodAll_nil r_2
  obtain rfl : args = #[v0, v1, v2] := by cases args; simp_all
  obtain ⟨rfl, rfl⟩ := trodVars_none hV
  obtain ⟨c0, rfl⟩ : ∃ cs, v0 = .agg cs := by have q := hval 0 42 v0 rfl rfl; simp only [Value.okWide, Try.underlying42] at q; obtain ⟨cs, q, _⟩ := q; exact ⟨cs, q⟩
  have k0 := h0
  have lt0 : ∀ x ∈ p0, x.block < W.heap.size := by obtain ⟨m, hm⟩ := k0; exact DataW.trod_lt m _ _ _ hm
  have r0 : ∃ f, Rds Try.prog W f 42 c0.toList := by obtain ⟨m, hm⟩ := h0; exact ⟨m, rds_of m _ _ _ hm⟩
  obtain ⟨c1, rfl⟩ : ∃ cs, v1 = .agg cs := by have q := hval 1 42 v1 rfl rfl; simp only [Value.okWide, Try.underlying42] at q; obtain ⟨cs, q, _⟩ := q; exact ⟨cs, q⟩
  have k1 := h1
  have lt1 : ∀ x ∈ p1, x.block < W.heap.size := by obtain ⟨m, hm⟩ := k1; exact DataW.trod_lt m _ _ _ hm
  have r1 : ∃ f, Rds Try.prog W f 42 c1.toList := by obtain ⟨m, hm⟩ := h1; exact ⟨m, rds_of m _ _ _ hm⟩
  obtain ⟨c2, rfl⟩ : ∃ cs, v2 = .agg cs := by have q := hval 2 72 v2 rfl rfl; simp only [Value.okWide, Try.underlying72] at q; obtain ⟨cs, q, _⟩ := q; exact ⟨cs, q⟩
  have k2 := h2
  have lt2 : ∀ x ∈ p2, x.block < W.heap.size := by obtain ⟨m, hm⟩ := k2; exact DataW.trod_lt m _ _ _ hm
  have r2 : ∃ f, Rds Try.prog W f 72 c2.toList := by obtain ⟨m, hm⟩ := h2; exact ⟨m, rds_of m _ _ _ hm⟩
  clear hA0 hval0
  refine (walk W c0 r0 c1 r1 c2 r2).mono fun e W' ⟨he, bel⟩ => ?_
  subst he
  exact ⟨_, rfl, _, _, _, [], _, [], hW', trodAll_mk1 (shut_bool Try.underlying4 _), (trodAll_cons_mk (Below.trod laidOut (by kernel_rfl) (of_decide_eq_true (by kernel_rfl)) k0 bel lt0) (trodAll_cons_mk (Below.trod laidOut (by kernel_rfl) (of_decide_eq_true (by kernel_rfl)) k1 bel lt1) (trodAll_cons_mk (Below.trod laidOut (by kernel_rfl) (of_decide_eq_true (by kernel_rfl)) k2 bel lt2) trodAll_mk0))), rfl, bel.frame _, fun h => by cases h⟩

theorem over : Rows.superTearsRow.holds Try.pinned (OpenSpec.ofChange Rows.superTearsSpec) :=
  OpenClaim.holds_of_wide 6 Try.f6 rfl rfl rfl rfl rfl rfl rfl ⟨rfl, rfl, rfl, rfl, rfl⟩ rfl rfl rfl rfl rfl (by kernel_rfl) Try.func6 (by kernel_rfl)
    (of_decide_eq_true (by kernel_rfl)) (by unfold Func.isWrapper; first | (rw [if_pos (by decide +kernel)]; kernel_rfl) | (rw [if_neg (by decide +kernel)]; exact ⟨rfl, rfl⟩))
    (fun os started H enc _ => lifted os started H enc)

theorem proved : Rows.SuperTearsSaid := over
#print axioms proved
end Go.Proofs.Ytckdlfbbkemklaa.superTears
