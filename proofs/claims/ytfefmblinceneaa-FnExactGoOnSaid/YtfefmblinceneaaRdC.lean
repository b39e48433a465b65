/- Contracts: the laws' own arguments. -/
import Derived.Test.YtfefmblinceneaaRdA
import Derived.Test.YtfefmblinceneaaSzC
set_option linter.unusedVariables false
set_option linter.unusedSimpArgs false
namespace Go.Proofs.Ytfefmblinceneaa.M
open Go.RowKit Go.ChangeShapes Go.WideShapes

theorem rdAnswer : Rd 72 2 Answer.c Answer.Zm := by
  refine ⟨by kernel_rfl, fun en W fuel cs x hx => ?_⟩
  obtain ⟨xs, n, rfl, _, hl, hn, hf⟩ := DataW.trod_struct Try.underlying72 hx
  rw [show Try.prog.cellsOf 72 = 2 from by kernel_rfl] at hl
  replace hn : xs.length = 2 := hn
  obtain ⟨c0, c1, rfl⟩ : ∃ c0 c1, cs = [c0, c1] := by
    clear hx hf hn
    rcases cs with _ | ⟨c0, cs⟩
    · simp at hl
    rcases cs with _ | ⟨c1, cs⟩
    · simp at hl
    obtain rfl : cs = [] := List.eq_nil_of_length_eq_zero (by simp only [List.length_cons] at hl; omega)
    exact ⟨c0, c1, rfl⟩
  have f0 := hf 0 _ rfl
  rw [List.getElem?_eq_getElem (by omega : 0 < xs.length)] at f0
  obtain ⟨y0, r0, k0⟩ := rdBool.2 en W n [c0] _ (by have h := rdBool.1; simpa [h] using f0)
  have f1 := hf 1 _ rfl
  rw [List.getElem?_eq_getElem (by omega : 1 < xs.length)] at f1
  obtain ⟨y1, r1, k1⟩ := rdString.2 en W n [c1] _ (by have h := rdString.1; simpa [h] using f1)
  exact ⟨⟨y0, y1⟩, (reps_append r0 r1), k1⟩
theorem rdAnswerS : Rd 45 1 (fun xs => [AnswersT 72 xs]) (fun xs => ∀ x ∈ xs, x.Zm) := rd_slice zAnswer Try.underlying45 (by kernel_rfl) rdAnswer (fun _ => rfl) (by decide)
end Go.Proofs.Ytfefmblinceneaa.M
