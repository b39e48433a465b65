/- The closed facts of the card of FnExactDo: each a theorem of its own, so that the kernel gives its memory back behind each. -/
import Derived.Test.YtkpkfihaihoaeaaGreatDoorCfVs
import Derived.Test.YtkpkfihaihoaeaaGreatDoorRows
import Derived.Test.YtkpkfihaihoaeaaGreatDoorCards
import Derived.Test.YtkpkfihaihoaeaaGreatDoorTie
import Derived.Stop.Joined
import Derived.SevenTiedAt
import Derived.JoinedOf
import Derived.WalkKit
import Derived.ProofKit
namespace Go.Proofs.YtkpkfihaihoaeaaGreatDoor.FnExactDoF
set_option linter.unusedVariables false
set_option maxRecDepth 100000
theorem andT {a b : Bool} (h : a = true) (k : b = true) : (a && b) = true := by rw [h, k]; rfl
theorem named : Tryz.pinned.checked.prog.funcNamed "loop.example/kilnweb/laws.FnExactDo" = some 9 := by kernel_rfl
theorem c0 : (Rows.fnExactDoRow.wf (OpenSpec.ofChange Rows.fnExactDoSpec)) = true := by kernel_rfl
theorem c1 : (laidOutB Tryz.pinned.checked.prog) = true := Go.Proofs.YtkpkfihaihoaeaaGreatDoor.FnExactValidStateF.c1
theorem c2 : (mapsRowed Tryz.pinned.checked.prog) = true := Go.Proofs.YtkpkfihaihoaeaaGreatDoor.FnExactValidStateF.c2
theorem c3 : (Tryz.f9.params.all (Tryz.pinned.checked.prog.readableRec ·)) = true := by kernel_rfl
theorem c4 : (namedTie Tryz.pinned.checked.prog Rows.fnExactDoRow.named Rows.fnExactDoSpec.vars) = true := by kernel_rfl
theorem c5 : ((Rows.fnExactDoRow.stops == [])) = true := by kernel_rfl
theorem c6 : ((Tryz.pinned.checked.prog.stops == [])) = true := Go.Proofs.YtkpkfihaihoaeaaGreatDoor.FnExactValidStateF.c6
theorem c7 : ((Rows.fnExactDoRow.knobs == [])) = true := by kernel_rfl
theorem c8 : ((Tryz.pinned.checked.prog.stopKnobs == [])) = true := Go.Proofs.YtkpkfihaihoaeaaGreatDoor.FnExactValidStateF.c8
theorem c9 : ((Rows.fnExactDoRow.inPlace == Tryz.pinned.checked.prog.inPlace 9)) = true := by kernel_rfl
theorem c10 : ((Rows.fnExactDoRow.unfollowed == Tryz.pinned.checked.prog.unfollowed 9)) = true := by kernel_rfl
theorem c11 : ((Rows.fnExactDoRow.recurses == Tryz.pinned.checked.prog.recurses 9)) = true := by kernel_rfl
theorem c12 : ((Rows.fnExactDoRow.named == Tryz.pinned.checked.prog.varsNamed 9)) = true := by kernel_rfl
theorem c13 : ((Rows.fnExactDoRow.maps == (Tryz.f9.params.toList ++ Rows.fnExactDoSpec.plain.varTypes Tryz.pinned.checked.prog).any (Tryz.pinned.checked.prog.mapsRec ·))) = true := by kernel_rfl
theorem c14 : ((Rows.fnExactDoRow.ifaces == (Tryz.f9.params.toList ++ Rows.fnExactDoSpec.plain.varTypes Tryz.pinned.checked.prog).any (Tryz.pinned.checked.prog.ifacesRec ·))) = true := by kernel_rfl
theorem c15 : ((Rows.fnExactDoRow.mapsOut == Tryz.pinned.checked.prog.mapsAmong Tryz.f9.resultTypes.toList)) = true := by kernel_rfl
theorem c16 : ((Rows.fnExactDoRow.loops == (Tryz.f9.params.toList ++ Rows.fnExactDoSpec.plain.varTypes Tryz.pinned.checked.prog).any (Tryz.pinned.checked.prog.loopsFrom ·))) = true := by kernel_rfl
theorem c17 : ((Rows.fnExactDoRow.wideKeys == (Tryz.f9.params.toList ++ Rows.fnExactDoSpec.plain.varTypes Tryz.pinned.checked.prog ++ Tryz.f9.resultTypes.toList).any (Tryz.pinned.checked.prog.wideKeysFrom ·))) = true := by kernel_rfl
theorem c18 : (Rows.fnExactDoSpec.vars.all (Tryz.pinned.checked.prog.varReadable ·)) = true := by kernel_rfl
theorem c19 : (Tryz.f9.resultTypes.all (fun t => Tryz.pinned.checked.prog.readableRec t && decide (t < Tryz.pinned.checked.prog.types.size))) = true := by kernel_rfl
theorem c20 : ((Rows.fnExactDoRow.ifacesOut == Tryz.f9.resultTypes.toList.any (Tryz.pinned.checked.prog.ifacesRec ·))) = true := by kernel_rfl
theorem c21 : ((Rows.fnExactDoRow.loopsOut == Tryz.f9.resultTypes.toList.any (Tryz.pinned.checked.prog.loopsFrom ·))) = true := by kernel_rfl
theorem c22 : ((Rows.fnExactDoRow.plainKeys == Tryz.pinned.checked.prog.plainKeys)) = true := by kernel_rfl
theorem c23 : (Rows.fnExactDoRow.shortTexts.isNone) = true := by kernel_rfl
theorem c24 : (Tryz.pinned.checked.prog.stopsHeard) = true := Go.Proofs.YtkpkfihaihoaeaaGreatDoor.FnExactValidStateF.c24
theorem c25 : (Tryz.pinned.checked.prog.mayEnter) = true := Go.Proofs.YtkpkfihaihoaeaaGreatDoor.FnExactValidStateF.c25
theorem c26 : ((Rows.fnExactDoRow.lifted == Tryz.pinned.checked.prog.liftsFinal)) = true := by kernel_rfl
theorem c27 : ((Tryz.pinned.checked.prog.make == some Rows.fnExactDoRow.make)) = true := by kernel_rfl
theorem c28 : ((Rows.fnExactDoRow.kinds == (if Rows.fnExactDoRow.domain.isEmpty then [] else Tryz.f9.params.toList.map fun t => match Tryz.pinned.checked.prog.underlying t with | some (.int k) => some k | _ => none))) = true := by kernel_rfl
theorem c29 : ((Rows.fnExactDoRow.pinned == Rows.fnExactDoRow.pinnedBy)) = true := by kernel_rfl
theorem c30 : ((Rows.fnExactDoRow.veiled == (Tryz.f9.params.toList ++ Rows.fnExactDoSpec.plain.varTypes Tryz.pinned.checked.prog ++ Tryz.f9.resultTypes.toList).any (Tryz.pinned.checked.prog.veiledRec ·))) = true := by kernel_rfl
theorem c31 : (Rows.fnExactDoRow.veiledFits Tryz.pinned.checked.prog Tryz.f9.params.toList (Tryz.f9.params.toList ++ Rows.fnExactDoSpec.plain.varTypes Tryz.pinned.checked.prog ++ Tryz.f9.resultTypes.toList)) = true := by kernel_rfl
theorem closed : joinedFacts Tryz.pinned.checked.prog 9 Tryz.f9 Rows.fnExactDoSpec Rows.fnExactDoRow = true := by
  unfold joinedFacts
  exact (andT (andT (andT (andT (andT (andT (andT (andT (andT (andT (andT (andT (andT (andT (andT (andT (andT (andT (andT (andT (andT (andT (andT (andT (andT (andT (andT (andT (andT (andT (andT c0 c1) c2) c3) c4) c5) c6) c7) c8) c9) c10) c11) c12) c13) c14) c15) c16) c17) c18) c19) c20) c21) c22) c23) c24) c25) c26) c27) c28) c29) c30) c31)
theorem inst : Tryz.f9.isInstance Tryz.pinned.checked.prog Rows.fnExactDoRow.origin Rows.fnExactDoRow.targs := of_decide_eq_true (by kernel_rfl)
theorem wrap : Tryz.f9.isWrapper Tryz.pinned.checked.prog Rows.fnExactDoRow.wrapper Rows.fnExactDoRow.mainSum := by unfold Func.isWrapper; first | (rw [if_pos (by decide +kernel)]; kernel_rfl) | (rw [if_neg (by decide +kernel)]; exact ⟨rfl, rfl⟩)
theorem text : Rows.fnExactDoRow.wfByText (OpenSpec.ofChange Rows.fnExactDoSpec) = true := by kernel_rfl
theorem harness : Tryz.pinned.checked.prog.mainIs = some (true, "d42665e04f85bbf8b8164f7baa8d0ba6e0e9aaa1e345cfafd6cc16a9fe257f89".toList) := Go.Proofs.YtkpkfihaihoaeaaGreatDoor.FnExactValidStateF.harness
theorem looks : false = Tryz.pinned.checked.prog.looks [] := Go.Proofs.YtkpkfihaihoaeaaGreatDoor.FnExactValidStateF.looks
theorem standIn : ([24, 28, 9].all fun u => !Tryz.pinned.checked.prog.wantsStandIn u) = true := by kernel_rfl
theorem goes : false = Rows.fnExactDoRow.goesBy Tryz.pinned.checked.prog := by kernel_rfl
end Go.Proofs.YtkpkfihaihoaeaaGreatDoor.FnExactDoF
