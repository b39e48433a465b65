/- Contracts: the laws' own types. -/
import Derived.Test.YtmjfkjdfmpileaaInfS
set_option linter.unusedVariables false
set_option linter.unusedSimpArgs false
namespace Go.Proofs.Ytmjfkjdfmpileaa.M
open Go.RowKit

theorem info_Case : (Try.prog.info? 112).map (fun i => (i.zero, i.size, i.bytes)) = some (some (.agg #[.string ⟨#[]⟩, .int .i64 0]), 2, 24) := by kernel_rfl
theorem z_Case (W : World) : owns W (zCase.c) (Value.agg #[.string ⟨#[]⟩, .int .i64 0]).cells.toList [] := by have h := Case.omk (w := W) zCase ; simpa [Value.cells, zCase] using h
theorem info_Step : (Try.prog.info? 108).map (fun i => (i.zero, i.size, i.bytes)) = some (some (.agg #[.slice none 0 0, .int .i64 0, .slice none 0 0, .int .i64 0, .int .i64 0, .bool false, .bool false, .string ⟨#[]⟩]), 8, 96) := by kernel_rfl
theorem z_Step {tCase : Nat} (W : World) : owns W (zStep.c tCase) (Value.agg #[.slice none 0 0, .int .i64 0, .slice none 0 0, .int .i64 0, .int .i64 0, .bool false, .bool false, .string ⟨#[]⟩]).cells.toList [] := by have h := Step.omk (w := W) (tCase := tCase) zStep (own_nil _ _ _) (own_nil _ _ _); simpa [Value.cells, zStep] using h
end Go.Proofs.Ytmjfkjdfmpileaa.M
