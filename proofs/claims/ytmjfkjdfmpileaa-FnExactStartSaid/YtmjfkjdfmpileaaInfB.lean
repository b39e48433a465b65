/- Contracts: the laws' own types. -/
import Derived.Test.YtmjfkjdfmpileaaInf
set_option linter.unusedVariables false
set_option linter.unusedSimpArgs false
namespace Go.Proofs.Ytmjfkjdfmpileaa.M
open Go.RowKit

theorem info_Node : (Try.prog.info? 46).map (fun i => (i.zero, i.size, i.bytes)) = some (some (.agg #[.string ⟨#[]⟩, .int .i64 0, .slice none 0 0]), 3, 48) := by kernel_rfl
theorem z_Node {tStep tCase : Nat} (W : World) : owns W (zNode.c tStep tCase) (Value.agg #[.string ⟨#[]⟩, .int .i64 0, .slice none 0 0]).cells.toList [] := by have h := Node.omk (w := W) (tStep := tStep) (tCase := tCase) zNode (own_nil _ _ _); simpa [Value.cells, zNode, zAction] using h
end Go.Proofs.Ytmjfkjdfmpileaa.M
