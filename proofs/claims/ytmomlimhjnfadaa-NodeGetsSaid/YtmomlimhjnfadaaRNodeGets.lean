/- Of all bytes, bent ones among them, the node that is told has just these bytes; else there is an error: for every input the law returns true and writes nothing that was there; no condition. -/
import Derived.Test.YtmomlimhjnfadaaRows
import Derived.Test.YtmomlimhjnfadaaNdGetsWalk
import Derived.Test.YtmomlimhjnfadaaNdGetsRead
import Derived.Test.YtmomlimhjnfadaaGvRead
import Derived.Test.YtmomlimhjnfadaaGvLaw
import Derived.WalkKit
import Derived.ProofKit
import Derived.OpenShut
import Derived.ShutString
import Derived.ChangeOld
import Derived.Below
import Derived.Carry
import Derived.SizedLaws
import Derived.Test.YtmomlimhjnfadaaGvRead3
namespace Go.Proofs.Ytmomlimhjnfadaa.nodeGets
open Go.Gv
open Go.ChangeShapes Go.WideShapes Go.ChangeAt Go.RowKit
set_option linter.unusedVariables false

theorem own : ownKnob Try.prog.godebug = none := by kernel_rfl
theorem laidOut : laidOutB Try.prog = true := by kernel_rfl

theorem walk (w : World) (c0 : Array Value) (r0 : ∃ f, Rdz Try.prog w f 61 c0.toList) (c1 : Array Value) (r1 : ∃ f, Rdz Try.prog w f 62 c1.toList) (a2 : Option Addr) (len2 cap2 : Nat) (r2 : ∃ f, Rdz Try.prog w f 27 [.slice a2 len2 cap2]) :
    Calls Try.prog 4 #[.agg c0, .agg c1, .slice a2 len2 cap2] w fun e w' => e = .returned (.bool true) ∧ Below w.heap.size w w' := by
  obtain ⟨leaf, ev, kv, dv, E, K, D, hc, hr, h1, h2, h3, h4, h5⟩ := rdz_node r0
  obtain rfl : c0 = (ndLL leaf ev kv dv).toArray := by rw [← hc]
  obtain ⟨x, y, hc1⟩ := rdz_pair r1
  obtain rfl : c1 = [Value.int .i64 x, .int .i64 y].toArray := by rw [← hc1]
  obtain ⟨f2, r2'⟩ := r2
  obtain ⟨l, e2, hr2⟩ := rds_bytes Try.underlying27 Try.underlying5 (by kernel_rfl) ⟨f2, rdz_rds _ _ _ r2'⟩
  subst e2
  exact law_calls (nodeGets_walk w leaf ev kv dv E K D hr h4 x y _ l hr2)

set_option maxRecDepth 100000 in
theorem lifted (os : Os) (started : os.Started) (H : Type) (enc : TypeId × Value → H) :
    ReturnsInHanded {} Try.checked os 4 .any (Rows.nodeGetsSpec.pre6 enc Try.prog Try.f4 Rows.nodeGetsRow.domain false) (Rows.nodeGetsSpec.post enc Try.prog Try.f4 false true false false) := by
  refine returnsInHanded_of_change_sized (C := Try.checked) own started (by kernel_rfl) Try.func4
    (ChangeSpec.witness6 (enc := enc) (C := Try.checked) false ⟨#[], #[.agg #[.bool false, .slice none 0 0, .slice none 0 0, .slice none 0 0], .agg #[.int .i64 0, .int .i64 0], .slice none 0 0], []⟩ 8 (by kernel_rfl) (by kernel_rfl) (by kernel_rfl) (by kernel_rfl)) ?_
  intro W base args ds gs before hval0 hW hcnd hz _
  have hval : ∀ (j : Nat) t v, Try.f4.params[j]? = some t → args[j]? = some v → Value.okWide Try.prog W .any base t v := hval0
  have hW' := hW
  obtain ⟨p, q, hA0, hV, rfl, hfz, hnd⟩ := hW
  have hA : DataW.TrodAll enc Try.prog W 0 (fun _ => true) true Try.f4.params.toList args.toList ds p := hA0
  rw [Try.params4] at hA hval
  obtain ⟨v0, vs0, d0, ds0, p0, q0, hargs, rfl, rfl, h0, r_0⟩ := trodAll_cons hA
  obtain ⟨v1, vs1, d1, ds1, p1, q1, rfl, rfl, rfl, h1, r_1⟩ := trodAll_cons r_0
  obtain ⟨v2, vs2, d2, ds2, p2, q2, rfl, rfl, rfl, h2, r_2⟩ := trodAll_cons r_1
  obtain ⟨rfl, rfl, rfl⟩ := trodAll_nil r_2
  obtain rfl : args = #[v0, v1, v2] := by cases args; simp_all
  obtain ⟨rfl, rfl⟩ := trodVars_none hV
  obtain ⟨c0, rfl⟩ : ∃ cs, v0 = .agg cs := by have q := hval 0 61 v0 rfl rfl; simp only [Value.okWide, Try.underlying61] at q; obtain ⟨cs, q, _⟩ := q; exact ⟨cs, q⟩
  have k0 := h0
  have lt0 : ∀ x ∈ p0, x.block < W.heap.size := by obtain ⟨m, hm⟩ := k0; exact DataW.trod_lt m _ _ _ hm
  have r0 : ∃ f, Rdz Try.prog W f 61 c0.toList := by obtain ⟨m, hm⟩ := h0; exact ⟨m, rdz_of (fun _ => rfl) m _ _ _ hm (fun n hn => by simpa using List.all_eq_true.1 hz n (DataW.weights_mem_each (j := 0) (t := 61) (d := d0) (by rw [Try.params4]; rfl) rfl n hn))⟩
  obtain ⟨c1, rfl⟩ : ∃ cs, v1 = .agg cs := by have q := hval 1 62 v1 rfl rfl; simp only [Value.okWide, Try.underlying62] at q; obtain ⟨cs, q, _⟩ := q; exact ⟨cs, q⟩
  have k1 := h1
  have lt1 : ∀ x ∈ p1, x.block < W.heap.size := by obtain ⟨m, hm⟩ := k1; exact DataW.trod_lt m _ _ _ hm
  have r1 : ∃ f, Rdz Try.prog W f 62 c1.toList := by obtain ⟨m, hm⟩ := h1; exact ⟨m, rdz_of (fun _ => rfl) m _ _ _ hm (fun n hn => by simpa using List.all_eq_true.1 hz n (DataW.weights_mem_each (j := 1) (t := 62) (d := d1) (by rw [Try.params4]; rfl) rfl n hn))⟩
  obtain ⟨a2, len2, cap2, rfl⟩ := okWide_slice Try.underlying27 (hval 2 27 v2 rfl rfl)
  have k2 := h2
  have lt2 : ∀ x ∈ p2, x.block < W.heap.size := by obtain ⟨m, hm⟩ := k2; exact DataW.trod_lt m _ _ _ hm
  have r2 : ∃ f, Rdz Try.prog W f 27 [.slice a2 len2 cap2] := by obtain ⟨m, hm⟩ := h2; exact ⟨m, rdz_of (fun _ => rfl) m _ _ _ hm (fun n hn => by simpa using List.all_eq_true.1 hz n (DataW.weights_mem_each (j := 2) (t := 27) (d := d2) (by rw [Try.params4]; rfl) rfl n hn))⟩
  clear hA0 hval0
  refine (walk W c0 r0 c1 r1 a2 len2 cap2 r2).mono fun e W' ⟨he, bel⟩ => ?_
  subst he
  exact ⟨_, rfl, _, _, _, [], _, [], hW', trodAll_mk1 (shut_bool Try.underlying4 _), (trodAll_cons_mk (Below.trod laidOut (by kernel_rfl) (of_decide_eq_true (by kernel_rfl)) k0 bel lt0) (trodAll_cons_mk (Below.trod laidOut (by kernel_rfl) (of_decide_eq_true (by kernel_rfl)) k1 bel lt1) (trodAll_cons_mk (Below.trod laidOut (by kernel_rfl) (of_decide_eq_true (by kernel_rfl)) k2 bel lt2) trodAll_mk0))), rfl, bel.frame _, fun h => by cases h⟩

theorem over : Rows.nodeGetsRow.holds Try.pinned (OpenSpec.ofChange Rows.nodeGetsSpec) :=
  OpenClaim.holds_of_wide 4 Try.f4 rfl rfl rfl rfl rfl rfl rfl ⟨rfl, rfl, rfl, rfl, rfl⟩ rfl rfl rfl rfl rfl (by kernel_rfl) Try.func4 (by kernel_rfl)
    (of_decide_eq_true (by kernel_rfl)) (by unfold Func.isWrapper; first | (rw [if_pos (by decide +kernel)]; kernel_rfl) | (rw [if_neg (by decide +kernel)]; exact ⟨rfl, rfl⟩))
    (fun os started H enc _ => lifted os started H enc)

theorem proved : Rows.NodeGetsSaid := over
#print axioms proved
end Go.Proofs.Ytmomlimhjnfadaa.nodeGets
