/- Contracts: the laws' own arguments. -/
import Derived.Test.YtmjfkjdfmpileaaRd
set_option linter.unusedVariables false
set_option linter.unusedSimpArgs false
namespace Go.Proofs.Ytmjfkjdfmpileaa.M
open Go.RowKit Go.ChangeShapes Go.WideShapes

theorem rdStrs : Rd 56 1 (fun xs => [strsT 9 xs]) SmS := rd_slice ByteArray.empty Try.underlying56 (by kernel_rfl) (rd_str 9 Try.underlying9 (by kernel_rfl)) (fun _ => rfl) (by decide)
theorem rdInt : Rd 3 1 intC (fun x => -9223372036854775808 ≤ x ∧ x ≤ 9223372036854775807) := rd_int 3 Try.underlying3 (by kernel_rfl)
theorem rdBool : Rd 4 1 boolC (fun _ => True) := rd_bool 4 Try.underlying4 (by kernel_rfl)
theorem rdString : Rd 9 1 strC (fun x => x.size ≤ 9223372036854775807) := rd_str 9 Try.underlying9 (by kernel_rfl)
end Go.Proofs.Ytmjfkjdfmpileaa.M
