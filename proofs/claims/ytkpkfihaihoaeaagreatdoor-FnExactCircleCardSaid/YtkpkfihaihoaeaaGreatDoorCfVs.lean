/- The closed facts of the card of FnExactValidState: each a theorem of its own, so that the kernel gives its memory back behind each. -/
import Derived.Test.YtkpkfihaihoaeaaGreatDoorRows
import Derived.Test.YtkpkfihaihoaeaaGreatDoorCards
import Derived.Test.YtkpkfihaihoaeaaGreatDoorTie
import Derived.Stop.Joined
import Derived.SevenTiedAt
import Derived.JoinedOf
import Derived.WalkKit
import Derived.ProofKit
namespace Go.Proofs.YtkpkfihaihoaeaaGreatDoor.FnExactValidStateF
set_option linter.unusedVariables false
set_option maxRecDepth 100000
theorem andT {a b : Bool} (h : a = true) (k : b = true) : (a && b) = true := by rw [h, k]; rfl
theorem named : Tryz.pinned.checked.prog.funcNamed "loop.example/kilnweb/laws.FnExactValidState" = some 3 := by kernel_rfl
theorem c0 : (Rows.fnExactValidStateRow.wf (OpenSpec.ofChange Rows.fnExactValidStateSpec)) = true := by kernel_rfl
theorem c1 : (laidOutB Tryz.pinned.checked.prog) = true := by kernel_rfl
theorem c2 : (mapsRowed Tryz.pinned.checked.prog) = true := by kernel_rfl
theorem c3 : (Tryz.f3.params.all (Tryz.pinned.checked.prog.readableRec ·)) = true := by kernel_rfl
theorem c4 : (namedTie Tryz.pinned.checked.prog Rows.fnExactValidStateRow.named Rows.fnExactValidStateSpec.vars) = true := by kernel_rfl
theorem c5 : ((Rows.fnExactValidStateRow.stops == [])) = true := by kernel_rfl
theorem c6 : ((Tryz.pinned.checked.prog.stops == [])) = true := by kernel_rfl
theorem c7 : ((Rows.fnExactValidStateRow.knobs == [])) = true := by kernel_rfl
theorem c8 : ((Tryz.pinned.checked.prog.stopKnobs == [])) = true := by kernel_rfl
theorem c9 : ((Rows.fnExactValidStateRow.inPlace == Tryz.pinned.checked.prog.inPlace 3)) = true := by kernel_rfl
theorem c10 : ((Rows.fnExactValidStateRow.unfollowed == Tryz.pinned.checked.prog.unfollowed 3)) = true := by kernel_rfl
theorem c11 : ((Rows.fnExactValidStateRow.recurses == Tryz.pinned.checked.prog.recurses 3)) = true := by kernel_rfl
theorem c12 : ((Rows.fnExactValidStateRow.named == Tryz.pinned.checked.prog.varsNamed 3)) = true := by kernel_rfl
theorem c13 : ((Rows.fnExactValidStateRow.maps == (Tryz.f3.params.toList ++ Rows.fnExactValidStateSpec.plain.varTypes Tryz.pinned.checked.prog).any (Tryz.pinned.checked.prog.mapsRec ·))) = true := by kernel_rfl
theorem c14 : ((Rows.fnExactValidStateRow.ifaces == (Tryz.f3.params.toList ++ Rows.fnExactValidStateSpec.plain.varTypes Tryz.pinned.checked.prog).any (Tryz.pinned.checked.prog.ifacesRec ·))) = true := by kernel_rfl
theorem c15 : ((Rows.fnExactValidStateRow.mapsOut == Tryz.pinned.checked.prog.mapsAmong Tryz.f3.resultTypes.toList)) = true := by kernel_rfl
theorem c16 : ((Rows.fnExactValidStateRow.loops == (Tryz.f3.params.toList ++ Rows.fnExactValidStateSpec.plain.varTypes Tryz.pinned.checked.prog).any (Tryz.pinned.checked.prog.loopsFrom ·))) = true := by kernel_rfl
theorem c17 : ((Rows.fnExactValidStateRow.wideKeys == (Tryz.f3.params.toList ++ Rows.fnExactValidStateSpec.plain.varTypes Tryz.pinned.checked.prog ++ Tryz.f3.resultTypes.toList).any (Tryz.pinned.checked.prog.wideKeysFrom ·))) = true := by kernel_rfl
theorem c18 : (Rows.fnExactValidStateSpec.vars.all (Tryz.pinned.checked.prog.varReadable ·)) = true := by kernel_rfl
theorem c19 : (Tryz.f3.resultTypes.all (fun t => Tryz.pinned.checked.prog.readableRec t && decide (t < Tryz.pinned.checked.prog.types.size))) = true := by kernel_rfl
theorem c20 : ((Rows.fnExactValidStateRow.ifacesOut == Tryz.f3.resultTypes.toList.any (Tryz.pinned.checked.prog.ifacesRec ·))) = true := by kernel_rfl
theorem c21 : ((Rows.fnExactValidStateRow.loopsOut == Tryz.f3.resultTypes.toList.any (Tryz.pinned.checked.prog.loopsFrom ·))) = true := by kernel_rfl
theorem c22 : ((Rows.fnExactValidStateRow.plainKeys == Tryz.pinned.checked.prog.plainKeys)) = true := by kernel_rfl
theorem c23 : (Rows.fnExactValidStateRow.shortTexts.isNone) = true := by kernel_rfl
theorem c24 : (Tryz.pinned.checked.prog.stopsHeard) = true := by kernel_rfl
theorem c25 : (Tryz.pinned.checked.prog.mayEnter) = true := by kernel_rfl
theorem c26 : ((Rows.fnExactValidStateRow.lifted == Tryz.pinned.checked.prog.liftsFinal)) = true := by kernel_rfl
theorem c27 : ((Tryz.pinned.checked.prog.make == some Rows.fnExactValidStateRow.make)) = true := by kernel_rfl
theorem c28 : ((Rows.fnExactValidStateRow.kinds == (if Rows.fnExactValidStateRow.domain.isEmpty then [] else Tryz.f3.params.toList.map fun t => match Tryz.pinned.checked.prog.underlying t with | some (.int k) => some k | _ => none))) = true := by kernel_rfl
theorem c29 : ((Rows.fnExactValidStateRow.pinned == Rows.fnExactValidStateRow.pinnedBy)) = true := by kernel_rfl
theorem c30 : ((Rows.fnExactValidStateRow.veiled == (Tryz.f3.params.toList ++ Rows.fnExactValidStateSpec.plain.varTypes Tryz.pinned.checked.prog ++ Tryz.f3.resultTypes.toList).any (Tryz.pinned.checked.prog.veiledRec ·))) = true := by kernel_rfl
theorem c31 : (Rows.fnExactValidStateRow.veiledFits Tryz.pinned.checked.prog Tryz.f3.params.toList (Tryz.f3.params.toList ++ Rows.fnExactValidStateSpec.plain.varTypes Tryz.pinned.checked.prog ++ Tryz.f3.resultTypes.toList)) = true := by kernel_rfl
theorem closed : joinedFacts Tryz.pinned.checked.prog 3 Tryz.f3 Rows.fnExactValidStateSpec Rows.fnExactValidStateRow = true := by
  unfold joinedFacts
  exact (andT (andT (andT (andT (andT (andT (andT (andT (andT (andT (andT (andT (andT (andT (andT (andT (andT (andT (andT (andT (andT (andT (andT (andT (andT (andT (andT (andT (andT (andT (andT c0 c1) c2) c3) c4) c5) c6) c7) c8) c9) c10) c11) c12) c13) c14) c15) c16) c17) c18) c19) c20) c21) c22) c23) c24) c25) c26) c27) c28) c29) c30) c31)
theorem inst : Tryz.f3.isInstance Tryz.pinned.checked.prog Rows.fnExactValidStateRow.origin Rows.fnExactValidStateRow.targs := of_decide_eq_true (by kernel_rfl)
theorem wrap : Tryz.f3.isWrapper Tryz.pinned.checked.prog Rows.fnExactValidStateRow.wrapper Rows.fnExactValidStateRow.mainSum := by unfold Func.isWrapper; first | (rw [if_pos (by decide +kernel)]; kernel_rfl) | (rw [if_neg (by decide +kernel)]; exact ⟨rfl, rfl⟩)
theorem text : Rows.fnExactValidStateRow.wfByText (OpenSpec.ofChange Rows.fnExactValidStateSpec) = true := by kernel_rfl
theorem harness : Tryz.pinned.checked.prog.mainIs = some (true, "d42665e04f85bbf8b8164f7baa8d0ba6e0e9aaa1e345cfafd6cc16a9fe257f89".toList) := by kernel_rfl
theorem looks : false = Tryz.pinned.checked.prog.looks [] := by kernel_rfl
theorem standIn : ([24, 28].all fun u => !Tryz.pinned.checked.prog.wantsStandIn u) = true := by kernel_rfl
theorem goes : false = Rows.fnExactValidStateRow.goesBy Tryz.pinned.checked.prog := by kernel_rfl
end Go.Proofs.YtkpkfihaihoaeaaGreatDoor.FnExactValidStateF
