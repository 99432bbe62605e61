/- Of all trees, series and ranges the entries are told whose span meets the range: for every input the law returns true and writes nothing that was there; no condition. -/
import Derived.Test.YtckdlfbbkemklaaRows
import Derived.Test.YtckdlfbbkemklaaZ10
import Derived.Test.YtckdlfbbkemklaaZ09
import Derived.WalkKit
import Derived.ProofKit
import Derived.OpenShut
import Derived.ShutString
import Derived.ChangeOld
import Derived.Below
import Derived.Carry
namespace Go.Proofs.Ytckdlfbbkemklaa.walkSpans
open Go.Gv
open Go.ChangeShapes Go.WideShapes Go.ChangeAt Go.RowKit
set_option linter.unusedVariables false

theorem own : ownKnob Try.prog.godebug = none := by kernel_rfl
theorem laidOut : laidOutB Try.prog = true := by kernel_rfl

theorem walk (w : World) (c0 : Array Value) (r0 : ∃ f, Rds Try.prog w f 105 c0.toList) (a1 : Int) (w1 : (Lit.int .i64 a1).wf = true) (c2 : Array Value) (r2 : ∃ f, Rds Try.prog w f 106 c2.toList) :
    Calls Try.prog 9 #[.agg c0, .int .i64 a1, .agg c2] w fun e w' => e = .returned (.bool true) ∧ Below w.heap.size w w' := by
  obtain ⟨n, st, e0⟩ := rds_span0 r0
  obtain rfl : c0 = [Value.int .i64 n, .int .i64 st].toArray := by rw [← e0]
  obtain ⟨lo, hi, e2⟩ := rds_span1 r2
  obtain rfl : c2 = [Value.int .i64 lo, .int .i64 hi].toArray := by rw [← e2]
  exact law_calls (walkSpans_walk w n st a1 lo hi)

set_option maxRecDepth 100000 in
theorem lifted (os : Os) (started : os.Started) (H : Type) (enc : TypeId × Value → H) :
    ReturnsInHanded {} Try.checked os 9 .any (Rows.walkSpansSpec.pre6 enc Try.prog Try.f9 Rows.walkSpansRow.domain false) (Rows.walkSpansSpec.post enc Try.prog Try.f9 false true false false) := by
  refine returnsInHanded_of_change (C := Try.checked) own started (by kernel_rfl) Try.func9
    (ChangeSpec.witness6 (enc := enc) (C := Try.checked) false ⟨#[], #[.agg #[.int .i64 0, .int .i64 0], .int .i64 0, .agg #[.int .i64 0, .int .i64 0]], []⟩ 8 (by kernel_rfl) (by kernel_rfl) (by kernel_rfl) (by kernel_rfl)) ?_
  intro W base args ds gs before hval0 hW hcnd _
  have hval : ∀ (j : Nat) t v, Try.f9.params[j]? = some t → args[j]? = some v → Value.okWide Try.prog W .any base t v := hval0
  have hW' := hW
  obtain ⟨p, q, hA0, hV, rfl, hfz, hnd⟩ := hW
  have hA : DataW.TrodAll enc Try.prog W 0 (fun _ => true) true Try.f9.params.toList args.toList ds p := hA0
  rw [Try.params9] at hA hval
  obtain ⟨v0, vs0, d0, ds0, p0, q0, hargs, rfl, rfl, h0, r_0⟩ := trodAll_cons hA
  obtain ⟨v1, vs1, d1, ds1, p1, q1, rfl, rfl, rfl, h1, r_1⟩ := trodAll_cons r_0
  obtain ⟨v2, vs2, d2, ds2, p2, q2, rfl, rfl, rfl, h2, r_2⟩ := trodAll_cons r_1
  obtain ⟨rfl, rfl, rfl⟩ := trodAll_nil r_2
  obtain rfl : args = #[v0, v1, v2] := by cases args; simp_all
  obtain ⟨rfl, rfl⟩ := trodVars_none hV
  obtain ⟨c0, rfl⟩ : ∃ cs, v0 = .agg cs := by have q := hval 0 105 v0 rfl rfl; simp only [Value.okWide, Try.underlying105] at q; obtain ⟨cs, q, _⟩ := q; exact ⟨cs, q⟩
  have k0 := h0
  have lt0 : ∀ x ∈ p0, x.block < W.heap.size := by obtain ⟨m, hm⟩ := k0; exact DataW.trod_lt m _ _ _ hm
  have r0 : ∃ f, Rds Try.prog W f 105 c0.toList := by obtain ⟨m, hm⟩ := h0; exact ⟨m, rds_of m _ _ _ hm⟩
  obtain ⟨a1, rfl, rfl, rfl, w1⟩ := open_int Try.underlying3 (hval 1 3 v1 rfl rfl) h1
  obtain ⟨c2, rfl⟩ : ∃ cs, v2 = .agg cs := by have q := hval 2 106 v2 rfl rfl; simp only [Value.okWide, Try.underlying106] at q; obtain ⟨cs, q, _⟩ := q; exact ⟨cs, q⟩
  have k2 := h2
  have lt2 : ∀ x ∈ p2, x.block < W.heap.size := by obtain ⟨m, hm⟩ := k2; exact DataW.trod_lt m _ _ _ hm
  have r2 : ∃ f, Rds Try.prog W f 106 c2.toList := by obtain ⟨m, hm⟩ := h2; exact ⟨m, rds_of m _ _ _ hm⟩
  clear hA0 hval0
  refine (walk W c0 r0 a1 w1 c2 r2).mono fun e W' ⟨he, bel⟩ => ?_
  subst he
  exact ⟨_, rfl, _, _, _, [], _, [], hW', trodAll_mk1 (shut_bool Try.underlying4 _), (trodAll_cons_mk (Below.trod laidOut (by kernel_rfl) (of_decide_eq_true (by kernel_rfl)) k0 bel lt0) (trodAll_cons_mk (shut_int Try.underlying3 w1) (trodAll_cons_mk (Below.trod laidOut (by kernel_rfl) (of_decide_eq_true (by kernel_rfl)) k2 bel lt2) trodAll_mk0))), rfl, bel.frame _, fun h => by cases h⟩

theorem over : Rows.walkSpansRow.holds Try.pinned (OpenSpec.ofChange Rows.walkSpansSpec) :=
  OpenClaim.holds_of_wide 9 Try.f9 rfl rfl rfl rfl rfl rfl rfl ⟨rfl, rfl, rfl, rfl, rfl⟩ rfl rfl rfl rfl rfl (by kernel_rfl) Try.func9 (by kernel_rfl)
    (of_decide_eq_true (by kernel_rfl)) (by unfold Func.isWrapper; first | (rw [if_pos (by decide +kernel)]; kernel_rfl) | (rw [if_neg (by decide +kernel)]; exact ⟨rfl, rfl⟩))
    (fun os started H enc _ => lifted os started H enc)

theorem proved : Rows.WalkSpansSaid := over
#print axioms proved
end Go.Proofs.Ytckdlfbbkemklaa.walkSpans
