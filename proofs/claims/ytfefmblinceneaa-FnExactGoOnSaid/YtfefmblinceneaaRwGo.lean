/- For every action, place and list of answers the law of GoOn answers true. No condition. -/
import Derived.Test.YtfefmblinceneaaRows
import Derived.Test.YtfefmblinceneaaRdA
import Derived.Test.YtfefmblinceneaaRdC
import Derived.Test.YtfefmblinceneaaRo
import Derived.Test.YtfefmblinceneaaLwGo
import Derived.WalkKit
import Derived.ProofKit
import Derived.OpenShut
import Derived.ShutString
import Derived.ChangeOld
import Derived.Below
import Derived.SizedLaws
namespace Go.Proofs.Ytfefmblinceneaa.FnExactGoOn
open Go.ChangeShapes Go.WideShapes Go.ChangeAt Go.RowKit
open Go.ChangeMaps (open_string shut_string)
set_option linter.unusedVariables false
theorem own : ownKnob Try.prog.godebug = none := by kernel_rfl
theorem laidOut : laidOutB Try.prog = true := by kernel_rfl
set_option maxRecDepth 100000 in
theorem lifted (os : Os) (started : os.Started) (H : Type) (enc : TypeId × Value → H) :
    ReturnsInHanded {} Try.checked os 6 .any (Rows.fnExactGoOnSpec.pre6 enc Try.prog Try.f6 Rows.fnExactGoOnRow.domain false) (Rows.fnExactGoOnSpec.post enc Try.prog Try.f6 false true false false) := by
  refine returnsInHanded_of_change_sized (C := Try.checked) own started (by kernel_rfl) Try.func6
    (ChangeSpec.witness6 (enc := enc) (C := Try.checked) false ⟨#[], #[.agg #[.int .i64 0, .slice none 0 0], .int .i64 0, .slice none 0 0], []⟩ 8 (by kernel_rfl) (by kernel_rfl) (by kernel_rfl) (by kernel_rfl)) ?_
  intro W base args ds gs before hval0 hW hcnd hsz0 _
  have hW' := hW
  obtain ⟨p, q, hA0, hV, rfl, hfz, hnd⟩ := hW
  have hA : DataW.TrodAll enc Try.prog W 0 (fun _ => true) true Try.f6.params.toList args.toList ds p := hA0
  rw [Try.params6] at hA
  obtain ⟨v0, vs0, d0, ds0, p0, q0, hargs, rfl, rfl, h0, r0⟩ := trodAll_cons hA
  obtain ⟨v1, vs1, d1, ds1, p1, q1, rfl, rfl, rfl, h1, r1⟩ := trodAll_cons r0
  obtain ⟨v2, vs2, d2, ds2, p2, q2, rfl, rfl, rfl, h2, r2⟩ := trodAll_cons r1
  obtain ⟨rfl, rfl, rfl⟩ := trodAll_nil r2
  obtain rfl : args = #[v0, v1, v2] := by cases args; simp_all
  obtain ⟨rfl, rfl⟩ := trodVars_none hV
  have hv0 : Value.okWide Try.prog W .any base 25 v0 := hval0 0 25 v0 (by rw [Try.params6]; rfl) rfl
  have lt0 : ∀ x ∈ p0, x.block < W.heap.size := by obtain ⟨m, hm⟩ := h0; exact DataW.trod_lt m _ _ _ hm
  have k0 := h0
  obtain ⟨f0, hx0⟩ := h0
  obtain ⟨x0, hr0, hz0⟩ := M.rdAction.2 enc W f0 _ _ hx0
  obtain ⟨cs0, rfl, _⟩ := okWide_struct Try.underlying25 hv0
  replace hr0 : M.reps W _ cs0.toList := hr0
  have hv1 : Value.okWide Try.prog W .any base 3 v1 := hval0 1 3 v1 (by rw [Try.params6]; rfl) rfl
  have lt1 : ∀ x ∈ p1, x.block < W.heap.size := by obtain ⟨m, hm⟩ := h1; exact DataW.trod_lt m _ _ _ hm
  have k1 := h1
  obtain ⟨f1, hx1⟩ := h1
  obtain ⟨x1, rfl, _, _, wf1⟩ := open_int Try.underlying3 hv1 k1
  have hz1 := bounds_i64 wf1
  have hv2 : Value.okWide Try.prog W .any base 45 v2 := hval0 2 45 v2 (by rw [Try.params6]; rfl) rfl
  have lt2 : ∀ x ∈ p2, x.block < W.heap.size := by obtain ⟨m, hm⟩ := h2; exact DataW.trod_lt m _ _ _ hm
  have k2 := h2
  obtain ⟨f2, hx2⟩ := h2
  obtain ⟨A2, L2, C2, rfl⟩ := okWide_slice Try.underlying45 hv2
  obtain ⟨x2, hr2, hz2⟩ := M.rdAnswerS.2 enc W f2 _ _ hx2
  replace hr2 := M.reps_one hr2
  clear hA0 hval0 hsz0 hv0 hv1 hv2
  have hw := M.FnExactGoOn_calls x0 x1 x2 W hr0 hz0 hz1 hr2 hz2
  simp only [Array.toArray_toList] at hw
  refine hw.mono fun e W' ⟨he, bel⟩ => ?_
  subst he
  exact ⟨_, rfl, _, _, _, [], _, [], hW', trodAll_mk1 (shut_bool Try.underlying4 _), (trodAll_cons_mk (Below.trod laidOut (by kernel_rfl) (of_decide_eq_true (by kernel_rfl)) k0 bel lt0) (trodAll_cons_mk (Below.trod laidOut (by kernel_rfl) (of_decide_eq_true (by kernel_rfl)) k1 bel lt1) (trodAll_cons_mk (Below.trod laidOut (by kernel_rfl) (of_decide_eq_true (by kernel_rfl)) k2 bel lt2) trodAll_mk0))), rfl, bel.frame _, fun h => by cases h⟩
theorem over : Rows.fnExactGoOnRow.holds Try.pinned (OpenSpec.ofChange Rows.fnExactGoOnSpec) :=
  OpenClaim.holds_of_wide 6 Try.f6 rfl rfl rfl rfl rfl rfl rfl ⟨rfl, rfl, rfl, rfl, rfl⟩ rfl rfl rfl rfl rfl (by kernel_rfl) Try.func6 (by kernel_rfl)
    (of_decide_eq_true (by kernel_rfl)) (by unfold Func.isWrapper; first | (rw [if_pos (by decide +kernel)]; kernel_rfl) | (rw [if_neg (by decide +kernel)]; exact ⟨rfl, rfl⟩))
    (fun os started H enc _ => lifted os started H enc)
theorem proved : Rows.FnExactGoOnSaid := over
#print axioms proved
end Go.Proofs.Ytfefmblinceneaa.FnExactGoOn
namespace Go.Proofs.Ytfefmblinceneaa
/-- The row, under a short name, for the claim. -/
theorem fnExactGoOn_holds : Rows.FnExactGoOnSaid := FnExactGoOn.proved
end Go.Proofs.Ytfefmblinceneaa
