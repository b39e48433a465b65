/- The closed facts of the card of FnExactCircle: each a theorem of its own, so that the kernel gives its memory back behind each. -/
import Derived.Test.YtkpkfihaihoaeaaGreatDoorCfVs
import Derived.Test.YtkpkfihaihoaeaaGreatDoorRows
import Derived.Test.YtkpkfihaihoaeaaGreatDoorCards
import Derived.Test.YtkpkfihaihoaeaaGreatDoorTie
import Derived.Stop.Joined
import Derived.SevenTiedAt
import Derived.JoinedOf
import Derived.WalkKit
import Derived.ProofKit
namespace Go.Proofs.YtkpkfihaihoaeaaGreatDoor.FnExactCircleF
set_option linter.unusedVariables false
set_option maxRecDepth 100000
theorem andT {a b : Bool} (h : a = true) (k : b = true) : (a && b) = true := by rw [h, k]; rfl
theorem named : Tryz.pinned.checked.prog.funcNamed "loop.example/kilnweb/laws.FnExactCircle" = some 11 := by kernel_rfl
theorem c0 : (Rows.fnExactCircleRow.wf (OpenSpec.ofChange Rows.fnExactCircleSpec)) = true := by kernel_rfl
theorem c1 : (laidOutB Tryz.pinned.checked.prog) = true := Go.Proofs.YtkpkfihaihoaeaaGreatDoor.FnExactValidStateF.c1
theorem c2 : (mapsRowed Tryz.pinned.checked.prog) = true := Go.Proofs.YtkpkfihaihoaeaaGreatDoor.FnExactValidStateF.c2
theorem c3 : (Tryz.f11.params.all (Tryz.pinned.checked.prog.readableRec ·)) = true := by kernel_rfl
theorem c4 : (namedTie Tryz.pinned.checked.prog Rows.fnExactCircleRow.named Rows.fnExactCircleSpec.vars) = true := by kernel_rfl
theorem c5 : ((Rows.fnExactCircleRow.stops == [])) = true := by kernel_rfl
theorem c6 : ((Tryz.pinned.checked.prog.stops == [])) = true := Go.Proofs.YtkpkfihaihoaeaaGreatDoor.FnExactValidStateF.c6
theorem c7 : ((Rows.fnExactCircleRow.knobs == [])) = true := by kernel_rfl
theorem c8 : ((Tryz.pinned.checked.prog.stopKnobs == [])) = true := Go.Proofs.YtkpkfihaihoaeaaGreatDoor.FnExactValidStateF.c8
theorem c9 : ((Rows.fnExactCircleRow.inPlace == Tryz.pinned.checked.prog.inPlace 11)) = true := by kernel_rfl
theorem c10 : ((Rows.fnExactCircleRow.unfollowed == Tryz.pinned.checked.prog.unfollowed 11)) = true := by kernel_rfl
theorem c11 : ((Rows.fnExactCircleRow.recurses == Tryz.pinned.checked.prog.recurses 11)) = true := by kernel_rfl
theorem c12 : ((Rows.fnExactCircleRow.named == Tryz.pinned.checked.prog.varsNamed 11)) = true := by kernel_rfl
theorem c13 : ((Rows.fnExactCircleRow.maps == (Tryz.f11.params.toList ++ Rows.fnExactCircleSpec.plain.varTypes Tryz.pinned.checked.prog).any (Tryz.pinned.checked.prog.mapsRec ·))) = true := by kernel_rfl
theorem c14 : ((Rows.fnExactCircleRow.ifaces == (Tryz.f11.params.toList ++ Rows.fnExactCircleSpec.plain.varTypes Tryz.pinned.checked.prog).any (Tryz.pinned.checked.prog.ifacesRec ·))) = true := by kernel_rfl
theorem c15 : ((Rows.fnExactCircleRow.mapsOut == Tryz.pinned.checked.prog.mapsAmong Tryz.f11.resultTypes.toList)) = true := by kernel_rfl
theorem c16 : ((Rows.fnExactCircleRow.loops == (Tryz.f11.params.toList ++ Rows.fnExactCircleSpec.plain.varTypes Tryz.pinned.checked.prog).any (Tryz.pinned.checked.prog.loopsFrom ·))) = true := by kernel_rfl
theorem c17 : ((Rows.fnExactCircleRow.wideKeys == (Tryz.f11.params.toList ++ Rows.fnExactCircleSpec.plain.varTypes Tryz.pinned.checked.prog ++ Tryz.f11.resultTypes.toList).any (Tryz.pinned.checked.prog.wideKeysFrom ·))) = true := by kernel_rfl
theorem c18 : (Rows.fnExactCircleSpec.vars.all (Tryz.pinned.checked.prog.varReadable ·)) = true := by kernel_rfl
theorem c19 : (Tryz.f11.resultTypes.all (fun t => Tryz.pinned.checked.prog.readableRec t && decide (t < Tryz.pinned.checked.prog.types.size))) = true := by kernel_rfl
theorem c20 : ((Rows.fnExactCircleRow.ifacesOut == Tryz.f11.resultTypes.toList.any (Tryz.pinned.checked.prog.ifacesRec ·))) = true := by kernel_rfl
theorem c21 : ((Rows.fnExactCircleRow.loopsOut == Tryz.f11.resultTypes.toList.any (Tryz.pinned.checked.prog.loopsFrom ·))) = true := by kernel_rfl
theorem c22 : ((Rows.fnExactCircleRow.plainKeys == Tryz.pinned.checked.prog.plainKeys)) = true := by kernel_rfl
theorem c23 : (Rows.fnExactCircleRow.shortTexts.isNone) = true := by kernel_rfl
theorem c24 : (Tryz.pinned.checked.prog.stopsHeard) = true := Go.Proofs.YtkpkfihaihoaeaaGreatDoor.FnExactValidStateF.c24
theorem c25 : (Tryz.pinned.checked.prog.mayEnter) = true := Go.Proofs.YtkpkfihaihoaeaaGreatDoor.FnExactValidStateF.c25
theorem c26 : ((Rows.fnExactCircleRow.lifted == Tryz.pinned.checked.prog.liftsFinal)) = true := by kernel_rfl
theorem c27 : ((Tryz.pinned.checked.prog.make == some Rows.fnExactCircleRow.make)) = true := by kernel_rfl
theorem c28 : ((Rows.fnExactCircleRow.kinds == (if Rows.fnExactCircleRow.domain.isEmpty then [] else Tryz.f11.params.toList.map fun t => match Tryz.pinned.checked.prog.underlying t with | some (.int k) => some k | _ => none))) = true := by kernel_rfl
theorem c29 : ((Rows.fnExactCircleRow.pinned == Rows.fnExactCircleRow.pinnedBy)) = true := by kernel_rfl
theorem c30 : ((Rows.fnExactCircleRow.veiled == (Tryz.f11.params.toList ++ Rows.fnExactCircleSpec.plain.varTypes Tryz.pinned.checked.prog ++ Tryz.f11.resultTypes.toList).any (Tryz.pinned.checked.prog.veiledRec ·))) = true := by kernel_rfl
theorem c31 : (Rows.fnExactCircleRow.veiledFits Tryz.pinned.checked.prog Tryz.f11.params.toList (Tryz.f11.params.toList ++ Rows.fnExactCircleSpec.plain.varTypes Tryz.pinned.checked.prog ++ Tryz.f11.resultTypes.toList)) = true := by kernel_rfl
theorem closed : joinedFacts Tryz.pinned.checked.prog 11 Tryz.f11 Rows.fnExactCircleSpec Rows.fnExactCircleRow = true := by
  unfold joinedFacts
  exact (andT (andT (andT (andT (andT (andT (andT (andT (andT (andT (andT (andT (andT (andT (andT (andT (andT (andT (andT (andT (andT (andT (andT (andT (andT (andT (andT (andT (andT (andT (andT c0 c1) c2) c3) c4) c5) c6) c7) c8) c9) c10) c11) c12) c13) c14) c15) c16) c17) c18) c19) c20) c21) c22) c23) c24) c25) c26) c27) c28) c29) c30) c31)
theorem inst : Tryz.f11.isInstance Tryz.pinned.checked.prog Rows.fnExactCircleRow.origin Rows.fnExactCircleRow.targs := of_decide_eq_true (by kernel_rfl)
theorem wrap : Tryz.f11.isWrapper Tryz.pinned.checked.prog Rows.fnExactCircleRow.wrapper Rows.fnExactCircleRow.mainSum := by unfold Func.isWrapper; first | (rw [if_pos (by decide +kernel)]; kernel_rfl) | (rw [if_neg (by decide +kernel)]; exact ⟨rfl, rfl⟩)
theorem text : Rows.fnExactCircleRow.wfByText (OpenSpec.ofChange Rows.fnExactCircleSpec) = true := by kernel_rfl
theorem harness : Tryz.pinned.checked.prog.mainIs = some (true, "d42665e04f85bbf8b8164f7baa8d0ba6e0e9aaa1e345cfafd6cc16a9fe257f89".toList) := Go.Proofs.YtkpkfihaihoaeaaGreatDoor.FnExactValidStateF.harness
theorem looks : false = Tryz.pinned.checked.prog.looks [] := Go.Proofs.YtkpkfihaihoaeaaGreatDoor.FnExactValidStateF.looks
theorem standIn : ([24, 28].all fun u => !Tryz.pinned.checked.prog.wantsStandIn u) = true := by kernel_rfl
theorem goes : false = Rows.fnExactCircleRow.goesBy Tryz.pinned.checked.prog := by kernel_rfl
end Go.Proofs.YtkpkfihaihoaeaaGreatDoor.FnExactCircleF
