/- For every web and node the law of PutNode answers true. No condition. -/
import Derived.Test.YtmjfkjdfmpileaaRows
import Derived.Test.YtmjfkjdfmpileaaRdB
import Derived.Test.YtmjfkjdfmpileaaRo
import Derived.Test.YtmjfkjdfmpileaaLwPn
import Derived.WalkKit
import Derived.ProofKit
import Derived.OpenShut
import Derived.ShutString
import Derived.ChangeOld
import Derived.Below
import Derived.SizedLaws
namespace Go.Proofs.Ytmjfkjdfmpileaa.FnExactPutNode
open Go.ChangeShapes Go.WideShapes Go.ChangeAt Go.RowKit
open Go.ChangeMaps (open_string shut_string)
set_option linter.unusedVariables false
theorem own : ownKnob Try.prog.godebug = none := by kernel_rfl
theorem laidOut : laidOutB Try.prog = true := by kernel_rfl
set_option maxRecDepth 100000 in
theorem lifted (os : Os) (started : os.Started) (H : Type) (enc : TypeId × Value → H) :
    ReturnsInHanded {} Try.checked os 4 .any (Rows.fnExactPutNodeSpec.pre6 enc Try.prog Try.f4 Rows.fnExactPutNodeRow.domain false) (Rows.fnExactPutNodeSpec.post enc Try.prog Try.f4 false true false false) := by
  refine returnsInHanded_of_change_sized (C := Try.checked) own started (by kernel_rfl) Try.func4
    (ChangeSpec.witness6 (enc := enc) (C := Try.checked) false ⟨#[], #[.agg #[.slice none 0 0], .agg #[.string ⟨#[]⟩, .int .i64 0, .slice none 0 0]], []⟩ 8 (by kernel_rfl) (by kernel_rfl) (by kernel_rfl) (by kernel_rfl)) ?_
  intro W base args ds gs before hval0 hW hcnd hsz0 _
  have hW' := hW
  obtain ⟨p, q, hA0, hV, rfl, hfz, hnd⟩ := hW
  have hA : DataW.TrodAll enc Try.prog W 0 (fun _ => true) true Try.f4.params.toList args.toList ds p := hA0
  rw [Try.params4] at hA
  obtain ⟨v0, vs0, d0, ds0, p0, q0, hargs, rfl, rfl, h0, r0⟩ := trodAll_cons hA
  obtain ⟨v1, vs1, d1, ds1, p1, q1, rfl, rfl, rfl, h1, r1⟩ := trodAll_cons r0
  obtain ⟨rfl, rfl, rfl⟩ := trodAll_nil r1
  obtain rfl : args = #[v0, v1] := by cases args; simp_all
  obtain ⟨rfl, rfl⟩ := trodVars_none hV
  have hv0 : Value.okWide Try.prog W .any base 24 v0 := hval0 0 24 v0 (by rw [Try.params4]; rfl) rfl
  have lt0 : ∀ x ∈ p0, x.block < W.heap.size := by obtain ⟨m, hm⟩ := h0; exact DataW.trod_lt m _ _ _ hm
  have k0 := h0
  obtain ⟨f0, hx0⟩ := h0
  obtain ⟨x0, hr0, hz0⟩ := M.rdWeb.2 enc W f0 _ _ hx0
  obtain ⟨cs0, rfl, _⟩ := okWide_struct Try.underlying24 hv0
  replace hr0 : M.reps W _ cs0.toList := hr0
  have hv1 : Value.okWide Try.prog W .any base 39 v1 := hval0 1 39 v1 (by rw [Try.params4]; rfl) rfl
  have lt1 : ∀ x ∈ p1, x.block < W.heap.size := by obtain ⟨m, hm⟩ := h1; exact DataW.trod_lt m _ _ _ hm
  have k1 := h1
  obtain ⟨f1, hx1⟩ := h1
  obtain ⟨x1, hr1, hz1⟩ := M.rdNode.2 enc W f1 _ _ hx1
  obtain ⟨cs1, rfl, _⟩ := okWide_struct Try.underlying39 hv1
  replace hr1 : M.reps W _ cs1.toList := hr1
  clear hA0 hval0 hsz0 hv0 hv1
  have hw := M.FnExactPutNode_calls x0 x1 W hr0 hz0 hr1 hz1
  simp only [Array.toArray_toList] at hw
  refine hw.mono fun e W' ⟨he, bel⟩ => ?_
  subst he
  exact ⟨_, rfl, _, _, _, [], _, [], hW', trodAll_mk1 (shut_bool Try.underlying4 _), (trodAll_cons_mk (Below.trod laidOut (by kernel_rfl) (of_decide_eq_true (by kernel_rfl)) k0 bel lt0) (trodAll_cons_mk (Below.trod laidOut (by kernel_rfl) (of_decide_eq_true (by kernel_rfl)) k1 bel lt1) trodAll_mk0)), rfl, bel.frame _, fun h => by cases h⟩
theorem over : Rows.fnExactPutNodeRow.holds Try.pinned (OpenSpec.ofChange Rows.fnExactPutNodeSpec) :=
  OpenClaim.holds_of_wide 4 Try.f4 rfl rfl rfl rfl rfl rfl rfl ⟨rfl, rfl, rfl, rfl, rfl⟩ rfl rfl rfl rfl rfl (by kernel_rfl) Try.func4 (by kernel_rfl)
    (of_decide_eq_true (by kernel_rfl)) (by unfold Func.isWrapper; first | (rw [if_pos (by decide +kernel)]; kernel_rfl) | (rw [if_neg (by decide +kernel)]; exact ⟨rfl, rfl⟩))
    (fun os started H enc _ => lifted os started H enc)
theorem proved : Rows.FnExactPutNodeSaid := over
#print axioms proved
end Go.Proofs.Ytmjfkjdfmpileaa.FnExactPutNode
namespace Go.Proofs.Ytmjfkjdfmpileaa
/-- The row, under a short name, for the claim. -/
theorem fnExactPutNode_holds : Rows.FnExactPutNodeSaid := FnExactPutNode.proved
end Go.Proofs.Ytmjfkjdfmpileaa
