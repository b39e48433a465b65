/- Contracts: the laws' own types. -/
import Derived.Test.YtfefmblinceneaaInf
set_option linter.unusedVariables false
set_option linter.unusedSimpArgs false
namespace Go.Proofs.Ytfefmblinceneaa.M
open Go.RowKit

theorem info_Answer : (Try.prog.info? 73).map (fun i => (i.zero, i.size, i.bytes)) = some (some (.agg #[.bool false, .string ⟨#[]⟩]), 2, 24) := by kernel_rfl
theorem z_Answer (W : World) : owns W (zAnswer.c) (Value.agg #[.bool false, .string ⟨#[]⟩]).cells.toList [] := by have h := Answer.omk (w := W) zAnswer ; simpa [Value.cells, zAnswer] using h
end Go.Proofs.Ytfefmblinceneaa.M
