/- Of two keys one is ahead, or they are the same; of three the order is one: for every input the law returns true and writes nothing that was there; no condition. -/
import Derived.Test.YtmomlimhjnfadaaRows
import Derived.Test.YtmomlimhjnfadaaNdLessWalk
import Derived.Test.YtmomlimhjnfadaaNdRead
import Derived.Test.YtmomlimhjnfadaaGvRead
import Derived.Test.YtmomlimhjnfadaaGvLaw
import Derived.WalkKit
import Derived.ProofKit
import Derived.OpenShut
import Derived.ShutString
import Derived.ChangeOld
import Derived.Below
import Derived.Carry
namespace Go.Proofs.Ytmomlimhjnfadaa.nodeLess
open Go.Gv
open Go.ChangeShapes Go.WideShapes Go.ChangeAt Go.RowKit
set_option linter.unusedVariables false

theorem own : ownKnob Try.prog.godebug = none := by kernel_rfl
theorem laidOut : laidOutB Try.prog = true := by kernel_rfl

theorem walk (w : World) (c0 : Array Value) (r0 : ∃ f, Rds Try.prog w f 82 c0.toList) (c1 : Array Value) (r1 : ∃ f, Rds Try.prog w f 82 c1.toList) (c2 : Array Value) (r2 : ∃ f, Rds Try.prog w f 82 c2.toList) :
    Calls Try.prog 6 #[.agg c0, .agg c1, .agg c2] w fun e w' => e = .returned (.bool true) ∧ Below w.heap.size w w' := by
  obtain ⟨x, hx⟩ := rds_pair64 r0
  obtain ⟨y, hy⟩ := rds_pair64 r1
  obtain ⟨z, hz⟩ := rds_pair64 r2
  obtain rfl : c0 = (keyL x).toArray := by rw [← hx]
  obtain rfl : c1 = (keyL y).toArray := by rw [← hy]
  obtain rfl : c2 = (keyL z).toArray := by rw [← hz]
  exact law_calls (nodeLess_walk w x y z)

set_option maxRecDepth 100000 in
theorem lifted (os : Os) (started : os.Started) (H : Type) (enc : TypeId × Value → H) :
    ReturnsInHanded {} Try.checked os 6 .any (Rows.nodeLessSpec.pre6 enc Try.prog Try.f6 Rows.nodeLessRow.domain false) (Rows.nodeLessSpec.post enc Try.prog Try.f6 false true false false) := by
  refine returnsInHanded_of_change (C := Try.checked) own started (by kernel_rfl) Try.func6
    (ChangeSpec.witness6 (enc := enc) (C := Try.checked) false ⟨#[], #[.agg #[.int .i64 0, .int .i64 0], .agg #[.int .i64 0, .int .i64 0], .agg #[.int .i64 0, .int .i64 0]], []⟩ 8 (by kernel_rfl) (by kernel_rfl) (by kernel_rfl) (by kernel_rfl)) ?_
  intro W base args ds gs before hval0 hW hcnd _
  have hval : ∀ (j : Nat) t v, Try.f6.params[j]? = some t → args[j]? = some v → Value.okWide Try.prog W .any base t v := hval0
  have hW' := hW
  obtain ⟨p, q, hA0, hV, rfl, hfz, hnd⟩ := hW
  have hA : DataW.TrodAll enc Try.prog W 0 (fun _ => true) true Try.f6.params.toList args.toList ds p := hA0
  rw [Try.params6] at hA hval
  obtain ⟨v0, vs0, d0, ds0, p0, q0, hargs, rfl, rfl, h0, r_0⟩ := trodAll_cons hA
  obtain ⟨v1, vs1, d1, ds1, p1, q1, rfl, rfl, rfl, h1, r_1⟩ := trodAll_cons r_0
  obtain ⟨v2, vs2, d2, ds2, p2, q2, rfl, rfl, rfl, h2, r_2⟩ := trodAll_cons r_1
  obtain ⟨rfl, rfl, rfl⟩ := trodAll_nil r_2
  obtain rfl : args = #[v0, v1, v2] := by cases args; simp_all
  obtain ⟨rfl, rfl⟩ := trodVars_none hV
  obtain ⟨c0, rfl⟩ : ∃ cs, v0 = .agg cs := by have q := hval 0 82 v0 rfl rfl; simp only [Value.okWide, Try.underlying82] at q; obtain ⟨cs, q, _⟩ := q; exact ⟨cs, q⟩
  have k0 := h0
  have lt0 : ∀ x ∈ p0, x.block < W.heap.size := by obtain ⟨m, hm⟩ := k0; exact DataW.trod_lt m _ _ _ hm
  have r0 : ∃ f, Rds Try.prog W f 82 c0.toList := by obtain ⟨m, hm⟩ := h0; exact ⟨m, rds_of m _ _ _ hm⟩
  obtain ⟨c1, rfl⟩ : ∃ cs, v1 = .agg cs := by have q := hval 1 82 v1 rfl rfl; simp only [Value.okWide, Try.underlying82] at q; obtain ⟨cs, q, _⟩ := q; exact ⟨cs, q⟩
  have k1 := h1
  have lt1 : ∀ x ∈ p1, x.block < W.heap.size := by obtain ⟨m, hm⟩ := k1; exact DataW.trod_lt m _ _ _ hm
  have r1 : ∃ f, Rds Try.prog W f 82 c1.toList := by obtain ⟨m, hm⟩ := h1; exact ⟨m, rds_of m _ _ _ hm⟩
  obtain ⟨c2, rfl⟩ : ∃ cs, v2 = .agg cs := by have q := hval 2 82 v2 rfl rfl; simp only [Value.okWide, Try.underlying82] at q; obtain ⟨cs, q, _⟩ := q; exact ⟨cs, q⟩
  have k2 := h2
  have lt2 : ∀ x ∈ p2, x.block < W.heap.size := by obtain ⟨m, hm⟩ := k2; exact DataW.trod_lt m _ _ _ hm
  have r2 : ∃ f, Rds Try.prog W f 82 c2.toList := by obtain ⟨m, hm⟩ := h2; exact ⟨m, rds_of m _ _ _ hm⟩
  clear hA0 hval0
  refine (walk W c0 r0 c1 r1 c2 r2).mono fun e W' ⟨he, bel⟩ => ?_
  subst he
  exact ⟨_, rfl, _, _, _, [], _, [], hW', trodAll_mk1 (shut_bool Try.underlying4 _), (trodAll_cons_mk (Below.trod laidOut (by kernel_rfl) (of_decide_eq_true (by kernel_rfl)) k0 bel lt0) (trodAll_cons_mk (Below.trod laidOut (by kernel_rfl) (of_decide_eq_true (by kernel_rfl)) k1 bel lt1) (trodAll_cons_mk (Below.trod laidOut (by kernel_rfl) (of_decide_eq_true (by kernel_rfl)) k2 bel lt2) trodAll_mk0))), rfl, bel.frame _, fun h => by cases h⟩

theorem over : Rows.nodeLessRow.holds Try.pinned (OpenSpec.ofChange Rows.nodeLessSpec) :=
  OpenClaim.holds_of_wide 6 Try.f6 rfl rfl rfl rfl rfl rfl rfl ⟨rfl, rfl, rfl, rfl, rfl⟩ rfl rfl rfl rfl rfl (by kernel_rfl) Try.func6 (by kernel_rfl)
    (of_decide_eq_true (by kernel_rfl)) (by unfold Func.isWrapper; first | (rw [if_pos (by decide +kernel)]; kernel_rfl) | (rw [if_neg (by decide +kernel)]; exact ⟨rfl, rfl⟩))
    (fun os started H enc _ => lifted os started H enc)

theorem proved : Rows.NodeLessSaid := over
#print axioms proved
end Go.Proofs.Ytmomlimhjnfadaa.nodeLess
