/- Contracts: the laws' own arguments. -/
import Derived.Test.YtmjfkjdfmpileaaRdS
import Derived.Test.YtmjfkjdfmpileaaSzA
set_option linter.unusedVariables false
set_option linter.unusedSimpArgs false
namespace Go.Proofs.Ytmjfkjdfmpileaa.M
open Go.RowKit Go.ChangeShapes Go.WideShapes

theorem rdCase : Rd 150 2 Case.c Case.Zm := by
  refine ⟨by kernel_rfl, fun en W fuel cs x hx => ?_⟩
  obtain ⟨xs, n, rfl, _, hl, hn, hf⟩ := DataW.trod_struct Try.underlying150 hx
  rw [show Try.prog.cellsOf 150 = 2 from by kernel_rfl] at hl
  replace hn : xs.length = 2 := hn
  obtain ⟨c0, c1, rfl⟩ : ∃ c0 c1, cs = [c0, c1] := by
    clear hx hf hn
    rcases cs with _ | ⟨c0, cs⟩
    · simp at hl
    rcases cs with _ | ⟨c1, cs⟩
    · simp at hl
    obtain rfl : cs = [] := List.eq_nil_of_length_eq_zero (by simp only [List.length_cons] at hl; omega)
    exact ⟨c0, c1, rfl⟩
  have f0 := hf 0 _ rfl
  rw [List.getElem?_eq_getElem (by omega : 0 < xs.length)] at f0
  obtain ⟨y0, r0, k0⟩ := rdString.2 en W n [c0] _ (by have h := rdString.1; simpa [h] using f0)
  have f1 := hf 1 _ rfl
  rw [List.getElem?_eq_getElem (by omega : 1 < xs.length)] at f1
  obtain ⟨y1, r1, k1⟩ := rdInt.2 en W n [c1] _ (by have h := rdInt.1; simpa [h] using f1)
  exact ⟨⟨y0, y1⟩, (reps_append r0 r1), k0⟩
theorem rdCaseS : Rd 139 1 (fun xs => [CasesT 150 xs]) (fun xs => ∀ x ∈ xs, x.Zm) := rd_slice zCase Try.underlying139 (by kernel_rfl) rdCase (fun _ => rfl) (by decide)
theorem rdStep : Rd 141 8 (Step.c 150) Step.Zm := by
  refine ⟨by kernel_rfl, fun en W fuel cs x hx => ?_⟩
  obtain ⟨xs, n, rfl, _, hl, hn, hf⟩ := DataW.trod_struct Try.underlying141 hx
  rw [show Try.prog.cellsOf 141 = 8 from by kernel_rfl] at hl
  replace hn : xs.length = 8 := hn
  obtain ⟨c0, c1, c2, c3, c4, c5, c6, c7, rfl⟩ : ∃ c0 c1 c2 c3 c4 c5 c6 c7, cs = [c0, c1, c2, c3, c4, c5, c6, c7] := by
    clear hx hf hn
    rcases cs with _ | ⟨c0, cs⟩
    · simp at hl
    rcases cs with _ | ⟨c1, cs⟩
    · simp at hl
    rcases cs with _ | ⟨c2, cs⟩
    · simp at hl
    rcases cs with _ | ⟨c3, cs⟩
    · simp at hl
    rcases cs with _ | ⟨c4, cs⟩
    · simp at hl
    rcases cs with _ | ⟨c5, cs⟩
    · simp at hl
    rcases cs with _ | ⟨c6, cs⟩
    · simp at hl
    rcases cs with _ | ⟨c7, cs⟩
    · simp at hl
    obtain rfl : cs = [] := List.eq_nil_of_length_eq_zero (by simp only [List.length_cons] at hl; omega)
    exact ⟨c0, c1, c2, c3, c4, c5, c6, c7, rfl⟩
  have f0 := hf 0 _ rfl
  rw [List.getElem?_eq_getElem (by omega : 0 < xs.length)] at f0
  obtain ⟨y0, r0, k0⟩ := rdStrs.2 en W n [c0] _ (by have h := rdStrs.1; simpa [h] using f0)
  have f1 := hf 1 _ rfl
  rw [List.getElem?_eq_getElem (by omega : 1 < xs.length)] at f1
  obtain ⟨y1, r1, k1⟩ := rdInt.2 en W n [c1] _ (by have h := rdInt.1; simpa [h] using f1)
  have f2 := hf 2 _ rfl
  rw [List.getElem?_eq_getElem (by omega : 2 < xs.length)] at f2
  obtain ⟨y2, r2, k2⟩ := rdCaseS.2 en W n [c2] _ (by have h := rdCaseS.1; simpa [h] using f2)
  have f3 := hf 3 _ rfl
  rw [List.getElem?_eq_getElem (by omega : 3 < xs.length)] at f3
  obtain ⟨y3, r3, k3⟩ := rdInt.2 en W n [c3] _ (by have h := rdInt.1; simpa [h] using f3)
  have f4 := hf 4 _ rfl
  rw [List.getElem?_eq_getElem (by omega : 4 < xs.length)] at f4
  obtain ⟨y4, r4, k4⟩ := rdInt.2 en W n [c4] _ (by have h := rdInt.1; simpa [h] using f4)
  have f5 := hf 5 _ rfl
  rw [List.getElem?_eq_getElem (by omega : 5 < xs.length)] at f5
  obtain ⟨y5, r5, k5⟩ := rdBool.2 en W n [c5] _ (by have h := rdBool.1; simpa [h] using f5)
  have f6 := hf 6 _ rfl
  rw [List.getElem?_eq_getElem (by omega : 6 < xs.length)] at f6
  obtain ⟨y6, r6, k6⟩ := rdBool.2 en W n [c6] _ (by have h := rdBool.1; simpa [h] using f6)
  have f7 := hf 7 _ rfl
  rw [List.getElem?_eq_getElem (by omega : 7 < xs.length)] at f7
  obtain ⟨y7, r7, k7⟩ := rdString.2 en W n [c7] _ (by have h := rdString.1; simpa [h] using f7)
  exact ⟨⟨y0, y1, y2, y3, y4, y5, y6, y7⟩, (reps_append r0 (reps_append r1 (reps_append r2 (reps_append r3 (reps_append r4 (reps_append r5 (reps_append r6 r7))))))), ⟨k0, k2, k7⟩⟩
theorem rdStepS : Rd 35 1 (fun xs => [StepsT 141 150 xs]) (fun xs => ∀ x ∈ xs, x.Zm) := rd_slice zStep Try.underlying35 (by kernel_rfl) rdStep (fun _ => rfl) (by decide)
theorem rdAction : Rd 37 2 (Action.c 141 150) Action.Zm := by
  refine ⟨by kernel_rfl, fun en W fuel cs x hx => ?_⟩
  obtain ⟨xs, n, rfl, _, hl, hn, hf⟩ := DataW.trod_struct Try.underlying37 hx
  rw [show Try.prog.cellsOf 37 = 2 from by kernel_rfl] at hl
  replace hn : xs.length = 2 := hn
  obtain ⟨c0, c1, rfl⟩ : ∃ c0 c1, cs = [c0, c1] := by
    clear hx hf hn
    rcases cs with _ | ⟨c0, cs⟩
    · simp at hl
    rcases cs with _ | ⟨c1, cs⟩
    · simp at hl
    obtain rfl : cs = [] := List.eq_nil_of_length_eq_zero (by simp only [List.length_cons] at hl; omega)
    exact ⟨c0, c1, rfl⟩
  have f0 := hf 0 _ rfl
  rw [List.getElem?_eq_getElem (by omega : 0 < xs.length)] at f0
  obtain ⟨y0, r0, k0⟩ := rdInt.2 en W n [c0] _ (by have h := rdInt.1; simpa [h] using f0)
  have f1 := hf 1 _ rfl
  rw [List.getElem?_eq_getElem (by omega : 1 < xs.length)] at f1
  obtain ⟨y1, r1, k1⟩ := rdStepS.2 en W n [c1] _ (by have h := rdStepS.1; simpa [h] using f1)
  exact ⟨⟨y0, y1⟩, (reps_append r0 r1), k1⟩
end Go.Proofs.Ytmjfkjdfmpileaa.M
