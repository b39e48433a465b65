/- For every web and state the law of Circle answers true. The tied card: no condition beyond the three listed tables, which the card ties to the program's text. -/
import Derived.Test.YtkpkfihaihoaeaaGreatDoorRows
import Derived.Test.YtkpkfihaihoaeaaGreatDoorCards
import Derived.Test.YtkpkfihaihoaeaaGreatDoorTie
import Derived.LaidMore
import Derived.Stop.LaidErr
import Derived.Lib.LaidTab
import Derived.Stop.Joined
import Derived.SevenTiedAt
import Derived.Test.YtkpkfihaihoaeaaGreatDoorCiM1
import Derived.Test.YtkpkfihaihoaeaaGreatDoorCfCi
import Derived.WalkKit
import Derived.ProofKit
import Derived.OpenShut
import Derived.ShutString
import Derived.ChangeOld
import Derived.Below
import Derived.SizedLaws
section
namespace Go.Proofs.YtkpkfihaihoaeaaGreatDoor.FnExactCircle
open Go.ChangeShapes Go.WideShapes Go.ChangeAt Go.RowKit
open Go.ChangeMaps (open_string shut_string)
set_option linter.unusedVariables false
theorem own : ownKnob Tryz.prog.godebug = none := by kernel_rfl
theorem laidOut : laidOutB Tryz.prog = true := by kernel_rfl
def tz64 : List Int := [0, 1, 56, 2, 57, 49, 28, 3, 61, 58, 42, 50, 38, 29, 17, 4, 62, 47, 59, 36, 45, 43, 51, 22, 53, 39, 33, 30, 24, 18, 12, 5, 63, 55, 48, 27, 60, 41, 37, 16, 46, 35, 44, 21, 52, 32, 23, 11, 54, 26, 40, 15, 34, 20, 31, 10, 25, 14, 19, 9, 13, 8, 7, 6]
theorem door_met (os : Os) (args : Array Value) : laidMetH Tryz.prog Rows.fnExactCircleRow.laid ((World.doorLaid Tryz.prog 2000 os).forCall (fun _ _ => 0) ⟨#[], args, []⟩).memory :=
 laidMetH_of_parts3 (fuel := 8) (laidMet_of_run' 8 (by kernel_rfl) (by kernel_rfl)) (by kernel_rfl) (by kernel_rfl)
theorem of_laid {W : World} (h : laidMetH Tryz.prog Rows.fnExactCircleRow.laid W) : W.cell? ⟨3, 15, none⟩ = some (.int .u8 4) := by
 rw [MakeChecks.laidMetH_plain _ _ _ (by kernel_rfl)] at h
 have h := h.tail
 have hT := Lib.tabIs_of_head (k := .u8) (zs := tz64) (show Tryz.prog.globalNamed "math/bits.deBruijn64tab" = some 3 by kernel_rfl) (show (Tryz.prog.globals[3]?).map (·.type) = some 298 by kernel_rfl) Tryz.underlying298 Tryz.underlying5 (by kernel_rfl) (by kernel_rfl) h
 exact hT.cell (show Tryz.prog.globalNamed "math/bits.deBruijn64tab" = some 3 by kernel_rfl) 15 (by decide)
set_option maxRecDepth 100000 in
theorem lifted (os : Os) (started : os.Started) (H : Type) (enc : TypeId × Value → H) :
  ReturnsInHanded {} Tryz.checked os 11 .any (fun w args => (Rows.fnExactCircleSpec.pre enc Tryz.prog Tryz.f11 [] false w args ∧ laidMetH Tryz.prog Rows.fnExactCircleRow.laid w) ∧ sizedMet enc Tryz.prog Tryz.f11 (OpenSpec.ofChange Rows.fnExactCircleSpec) false w args)
   (Rows.fnExactCircleSpec.post enc Tryz.prog Tryz.f11 false true false false) := by
 refine returnsInHanded_of_change_and (C := Tryz.checked) (X := fun w _ => laidMetH Tryz.prog Rows.fnExactCircleRow.laid w) (fun _ _ _ hh h => h.of_heap hh) own started (by kernel_rfl) Tryz.func11
  (ChangeSpec.witness_shaped (enc := enc) (C := Tryz.checked) (os := os) (X := fun w _ => laidMetH Tryz.prog Rows.fnExactCircleRow.laid w) false (World.doorLaid Tryz.prog 2000 os) #[.agg #[.slice none 0 0], .agg #[.slice none 0 0, .slice none 0 0]] 8 rfl (World.shaped_of_RefB (by kernel_rfl) (by kernel_rfl)) (by kernel_rfl) (by kernel_rfl) (by kernel_rfl) (door_met os _)) ?_
 intro W base args ds gs before hval0 hW _ _ hL _
 have ht := of_laid hL
 have hg := World.block_lt_of_cell? W _ ht
 have hW' := hW
 obtain ⟨p, q, hA0, hV, rfl, hfz, hnd⟩ := hW
 have hA : DataW.TrodAll enc Tryz.prog W 0 (fun _ => true) true Tryz.f11.params.toList args.toList ds p := hA0
 rw [Tryz.params11] at hA
 obtain ⟨v0, vs0, d0, ds0, p0, q0, hargs, rfl, rfl, h0, r0⟩ := trodAll_cons hA
 obtain ⟨v1, vs1, d1, ds1, p1, q1, rfl, rfl, rfl, h1, r1⟩ := trodAll_cons r0
 obtain ⟨rfl, rfl, rfl⟩ := trodAll_nil r1
 obtain rfl : args = #[v0, v1] := by cases args; simp_all
 obtain ⟨rfl, rfl⟩ := trodVars_none hV
 have hv0 : Value.okWide Tryz.prog W .any base 24 v0 := hval0 0 24 v0 (by rw [Tryz.params11]; rfl) rfl
 have lt0 : ∀ x ∈ p0, x.block < W.heap.size := by obtain ⟨m, hm⟩ := h0; exact DataW.trod_lt m _ _ _ hm
 have k0 := h0
 obtain ⟨f0, hx0⟩ := h0
 obtain ⟨x0, hr0, hz0⟩ := M.rdWeb.2 enc W f0 _ _ hx0
 obtain ⟨cs0, rfl, _⟩ := okWide_struct Tryz.underlying24 hv0
 replace hr0 : M.reps W _ cs0.toList := hr0
 have hv1 : Value.okWide Tryz.prog W .any base 28 v1 := hval0 1 28 v1 (by rw [Tryz.params11]; rfl) rfl
 have lt1 : ∀ x ∈ p1, x.block < W.heap.size := by obtain ⟨m, hm⟩ := h1; exact DataW.trod_lt m _ _ _ hm
 have k1 := h1
 obtain ⟨f1, hx1⟩ := h1
 obtain ⟨x1, hr1, hz1⟩ := M.rdState.2 enc W f1 _ _ hx1
 obtain ⟨cs1, rfl, _⟩ := okWide_struct Tryz.underlying28 hv1
 replace hr1 : M.reps W _ cs1.toList := hr1
 clear hA0 hval0 hv0 hv1
 have hw := M.FnExactCircle_calls x0 x1 W hr0 hz0 hr1 hz1 hg ht
 simp only [Array.toArray_toList] at hw
 refine hw.mono fun e W' ⟨he, bel⟩ => ?_
 subst he
 exact ⟨_, rfl, _, _, _, [], _, [], hW', trodAll_mk1 (shut_bool Tryz.underlying4 _), (trodAll_cons_mk (Below.trod laidOut (by kernel_rfl) (of_decide_eq_true (by kernel_rfl)) k0 bel lt0) (trodAll_cons_mk (Below.trod laidOut (by kernel_rfl) (of_decide_eq_true (by kernel_rfl)) k1 bel lt1) trodAll_mk0)), rfl, bel.frame _, fun h => by cases h⟩
theorem over : Rows.fnExactCircleRow.holds Tryz.pinned (OpenSpec.ofChange Rows.fnExactCircleSpec) :=
 OpenClaim.holds_of_wide 11 Tryz.f11 rfl rfl rfl rfl rfl rfl rfl ⟨rfl, rfl, rfl, rfl, rfl⟩ rfl rfl rfl rfl rfl FnExactCircleF.named Tryz.func11 FnExactCircleF.closed
  FnExactCircleF.inst FnExactCircleF.wrap
  (fun os started H enc _ => lifted os started H enc)
theorem proved : Rows.FnExactCircleCardSaid :=
 Claim7.holds_tied_plain_at .later [] [.data, .data, .data] true (true, "d42665e04f85bbf8b8164f7baa8d0ba6e0e9aaa1e345cfafd6cc16a9fe257f89") false
  over (fun _ h => by cases h) FnExactCircleF.text (fun _ h => by cases h) fnExactCircle_row_tie rfl ⟨rfl, rfl⟩ FnExactCircleF.harness rfl
  (fun f fn hf hfn => by
   obtain rfl : f = 11 := Option.some.inj (FnExactCircleF.named.symm.trans hf) |>.symm
   obtain rfl : fn = Tryz.f11 := (Option.some.inj (Tryz.func11.symm.trans hfn)).symm
   exact ⟨FnExactCircleF.looks, fun j t ht => by
    rw [Tryz.params11] at ht
    have hm : t ∈ [24, 28] := by simpa using Array.mem_of_getElem? ht
    have hall := FnExactCircleF.standIn
    exact (by have := List.all_eq_true.1 hall t hm; revert this; cases Program.wantsStandIn _ t <;> (intro h; first | rfl | cases h))⟩)
  FnExactCircleF.goes
#print axioms proved
end Go.Proofs.YtkpkfihaihoaeaaGreatDoor.FnExactCircle
namespace Go.Proofs.YtkpkfihaihoaeaaGreatDoor
/-- The card, under a short name, for the claim. -/
theorem fnExactCircle_holds : Rows.FnExactCircleCardSaid := FnExactCircle.proved
end Go.Proofs.YtkpkfihaihoaeaaGreatDoor
end
