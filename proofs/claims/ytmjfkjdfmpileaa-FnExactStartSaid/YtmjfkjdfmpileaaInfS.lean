/- Contracts: the laws' own types. -/
import Derived.Test.YtmjfkjdfmpileaaData
import Derived.Test.YtmjfkjdfmpileaaProg
set_option linter.unusedVariables false
set_option linter.unusedSimpArgs false
namespace Go.Proofs.Ytmjfkjdfmpileaa.M
open Go.RowKit

theorem info_str : (Try.prog.info? 9).map (fun i => (i.zero, i.size, i.bytes)) = some (some (.string ⟨#[]⟩), 1, 16) := by kernel_rfl
theorem zstr (W : World) : owns W (strC ⟨#[]⟩) (Value.string ⟨#[]⟩).cells.toList [] := strC_own W _
end Go.Proofs.Ytmjfkjdfmpileaa.M
