/- One cell's reading. -/
import Derived.Test.YtmjfkjdfmpileaaMem
set_option linter.unusedVariables false
set_option linter.unusedSimpArgs false
namespace Go.Proofs.Ytmjfkjdfmpileaa.M
open Go.RowKit
theorem reps_one {w : World} {t : T} {v : Value} (h : reps w [t] [v]) : rep w t v := by
  simp only [reps] at h
  obtain ⟨u, us, he, h1, rfl⟩ := h
  cases he; exact h1
end Go.Proofs.Ytmjfkjdfmpileaa.M
