/- Of all pages the bytes are told, or that they can't be; they are told back: for every input the law returns true and writes nothing that was there; no condition. -/
import Derived.Test.YtnekhjiigijpjaaRows
import Derived.Test.YtnekhjiigijpjaaPgPutsWalk
import Derived.Test.YtnekhjiigijpjaaPgRead
import Derived.Test.YtnekhjiigijpjaaGvRead
import Derived.Test.YtnekhjiigijpjaaGvLaw
import Derived.WalkKit
import Derived.ProofKit
import Derived.OpenShut
import Derived.ShutString
import Derived.ChangeOld
import Derived.Below
import Derived.Carry
namespace Go.Proofs.Ytnekhjiigijpjaa.pagePuts
open Go.Gv
open Go.ChangeShapes Go.WideShapes Go.ChangeAt Go.RowKit
set_option linter.unusedVariables false

theorem own : ownKnob Try.prog.godebug = none := by kernel_rfl
theorem laidOut : laidOutB Try.prog = true := by kernel_rfl

theorem walk (w : World) (c0 : Array Value) (r0 : ∃ f, Rds Try.prog w f 50 c0.toList) :
    Calls Try.prog 8 #[.agg c0] w fun e w' => e = .returned (.bool true) ∧ Below w.heap.size w w' := by
  obtain ⟨p, A, cap, hg, hr, hc⟩ := rds_page r0
  obtain rfl : c0 = (pgL p (.slice A p.b.length cap)).toArray := by rw [← hc]
  exact law_calls (pagePuts_walk w p hg A cap hr)

set_option maxRecDepth 100000 in
theorem lifted (os : Os) (started : os.Started) (H : Type) (enc : TypeId × Value → H) :
    ReturnsInHanded {} Try.checked os 8 .any (Rows.pagePutsSpec.pre6 enc Try.prog Try.f8 Rows.pagePutsRow.domain false) (Rows.pagePutsSpec.post enc Try.prog Try.f8 false true false false) := by
  refine returnsInHanded_of_change (C := Try.checked) own started (by kernel_rfl) Try.func8
    (ChangeSpec.witness6 (enc := enc) (C := Try.checked) false ⟨#[], #[.agg #[.int .u8 0, .int .i64 0, .int .u64 0, .slice none 0 0]], []⟩ 8 (by kernel_rfl) (by kernel_rfl) (by kernel_rfl) (by kernel_rfl)) ?_
  intro W base args ds gs before hval0 hW hcnd _
  have hval : ∀ (j : Nat) t v, Try.f8.params[j]? = some t → args[j]? = some v → Value.okWide Try.prog W .any base t v := hval0
  have hW' := hW
  obtain ⟨p, q, hA0, hV, rfl, hfz, hnd⟩ := hW
  have hA : DataW.TrodAll enc Try.prog W 0 (fun _ => true) true Try.f8.params.toList args.toList ds p := hA0
  rw [Try.params8] at hA hval
  obtain ⟨v0, vs0, d0, ds0, p0, q0, hargs, rfl, rfl, h0, r_0⟩ := trodAll_cons hA
  obtain ⟨rfl, rfl, rfl⟩ := trodAll_nil r_0
  obtain rfl : args = #[v0] := by cases args; simp_all
  obtain ⟨rfl, rfl⟩ := trodVars_none hV
  obtain ⟨c0, rfl⟩ : ∃ cs, v0 = .agg cs := by have q := hval 0 50 v0 rfl rfl; simp only [Value.okWide, Try.underlying50] at q; obtain ⟨cs, q, _⟩ := q; exact ⟨cs, q⟩
  have k0 := h0
  have lt0 : ∀ x ∈ p0, x.block < W.heap.size := by obtain ⟨m, hm⟩ := k0; exact DataW.trod_lt m _ _ _ hm
  have r0 : ∃ f, Rds Try.prog W f 50 c0.toList := by obtain ⟨m, hm⟩ := h0; exact ⟨m, rds_of m _ _ _ hm⟩
  clear hA0 hval0
  refine (walk W c0 r0).mono fun e W' ⟨he, bel⟩ => ?_
  subst he
  exact ⟨_, rfl, _, _, _, [], _, [], hW', trodAll_mk1 (shut_bool Try.underlying4 _), (trodAll_cons_mk (Below.trod laidOut (by kernel_rfl) (of_decide_eq_true (by kernel_rfl)) k0 bel lt0) trodAll_mk0), rfl, bel.frame _, fun h => by cases h⟩

theorem over : Rows.pagePutsRow.holds Try.pinned (OpenSpec.ofChange Rows.pagePutsSpec) :=
  OpenClaim.holds_of_wide 8 Try.f8 rfl rfl rfl rfl rfl rfl rfl ⟨rfl, rfl, rfl, rfl, rfl⟩ rfl rfl rfl rfl rfl (by kernel_rfl) Try.func8 (by kernel_rfl)
    (of_decide_eq_true (by kernel_rfl)) (by unfold Func.isWrapper; first | (rw [if_pos (by decide +kernel)]; kernel_rfl) | (rw [if_neg (by decide +kernel)]; exact ⟨rfl, rfl⟩))
    (fun os started H enc _ => lifted os started H enc)

theorem proved : Rows.PagePutsSaid := over
#print axioms proved
end Go.Proofs.Ytnekhjiigijpjaa.pagePuts
