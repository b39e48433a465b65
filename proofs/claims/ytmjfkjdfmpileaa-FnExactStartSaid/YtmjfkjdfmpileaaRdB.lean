/- Contracts: the laws' own arguments. -/
import Derived.Test.YtmjfkjdfmpileaaRdA
import Derived.Test.YtmjfkjdfmpileaaSzB
set_option linter.unusedVariables false
set_option linter.unusedSimpArgs false
namespace Go.Proofs.Ytmjfkjdfmpileaa.M
open Go.RowKit Go.ChangeShapes Go.WideShapes

theorem rdNode : Rd 39 3 (Node.c 141 150) Node.Zm := by
  refine ⟨by kernel_rfl, fun en W fuel cs x hx => ?_⟩
  obtain ⟨xs, n, rfl, _, hl, hn, hf⟩ := DataW.trod_struct Try.underlying39 hx
  rw [show Try.prog.cellsOf 39 = 3 from by kernel_rfl] at hl
  replace hn : xs.length = 2 := hn
  obtain ⟨c0, c1, c2, rfl⟩ : ∃ c0 c1 c2, cs = [c0, c1, c2] := by
    clear hx hf hn
    rcases cs with _ | ⟨c0, cs⟩
    · simp at hl
    rcases cs with _ | ⟨c1, cs⟩
    · simp at hl
    rcases cs with _ | ⟨c2, cs⟩
    · simp at hl
    obtain rfl : cs = [] := List.eq_nil_of_length_eq_zero (by simp only [List.length_cons] at hl; omega)
    exact ⟨c0, c1, c2, rfl⟩
  have f0 := hf 0 _ rfl
  rw [List.getElem?_eq_getElem (by omega : 0 < xs.length)] at f0
  obtain ⟨y0, r0, k0⟩ := rdString.2 en W n [c0] _ (by have h := rdString.1; simpa [h] using f0)
  have f1 := hf 1 _ rfl
  rw [List.getElem?_eq_getElem (by omega : 1 < xs.length)] at f1
  obtain ⟨y1, r1, k1⟩ := rdAction.2 en W n [c1, c2] _ (by have h := rdAction.1; simpa [h] using f1)
  exact ⟨⟨y0, y1⟩, (reps_append r0 r1), ⟨k0, k1⟩⟩
theorem rdNodeS : Rd 22 1 (fun xs => [NodesT 39 141 150 xs]) (fun xs => ∀ x ∈ xs, x.Zm) := rd_slice zNode Try.underlying22 (by kernel_rfl) rdNode (fun _ => rfl) (by decide)
theorem rdWeb : Rd 24 1 (Web.c 39 141 150) Web.Zm := by
  refine ⟨by kernel_rfl, fun en W fuel cs x hx => ?_⟩
  obtain ⟨xs, n, rfl, _, hl, hn, hf⟩ := DataW.trod_struct Try.underlying24 hx
  rw [show Try.prog.cellsOf 24 = 1 from by kernel_rfl] at hl
  replace hn : xs.length = 1 := hn
  obtain ⟨c0, rfl⟩ : ∃ c0, cs = [c0] := by
    clear hx hf hn
    rcases cs with _ | ⟨c0, cs⟩
    · simp at hl
    obtain rfl : cs = [] := List.eq_nil_of_length_eq_zero (by simp only [List.length_cons] at hl; omega)
    exact ⟨c0, rfl⟩
  have f0 := hf 0 _ rfl
  rw [List.getElem?_eq_getElem (by omega : 0 < xs.length)] at f0
  obtain ⟨y0, r0, k0⟩ := rdNodeS.2 en W n [c0] _ (by have h := rdNodeS.1; simpa [h] using f0)
  exact ⟨⟨y0⟩, r0, k0⟩
end Go.Proofs.Ytmjfkjdfmpileaa.M
