/- Plain functions: webs. -/
import Derived.Test.YtmjfkjdfmpileaaPure
set_option linter.unusedVariables false
set_option linter.unusedSimpArgs false
namespace Go.Proofs.Ytmjfkjdfmpileaa.M
open Go.RowKit
/-- webs -/
def ltS (a b : ByteArray) : Bool := Op.bytesLess a.toList b.toList
def nodeNameOk (n : Node) : Bool := nameOk n.Name
def nodeActOk (n : Node) : Bool := actionOk n.Action
/-- the names before a place ascend -/
def ascTo (xs : List Node) (k : Nat) : Prop := ∀ (i : Nat) (h : i + 1 < xs.length), i < k → ltS xs[i].Name xs[i + 1].Name = true
def ascB : List Node → Bool
  | a :: b :: r => ltS a.Name b.Name && ascB (b :: r)
  | _ => true
theorem ascB_iff : ∀ (xs : List Node), ascB xs = true ↔ ∀ (i : Nat) (h : i + 1 < xs.length), ltS xs[i].Name xs[i + 1].Name = true
  | [] => by simp [ascB]
  | [a] => by simp [ascB]
  | a :: b :: r => by
    rw [ascB, Bool.and_eq_true, ascB_iff (b :: r)]
    constructor
    · rintro ⟨h1, h2⟩ i hi
      cases i with
      | zero => exact h1
      | succ i => exact h2 i (by simpa using hi)
    · intro h
      exact ⟨h 0 (by simp), fun i hi => h (i + 1) (by simpa using hi)⟩
theorem ascTo_zero (xs : List Node) : ascTo xs 0 := fun i _ h => absurd h (Nat.not_lt_zero _)
theorem ascTo_succ {xs : List Node} {k : Nat} (h : ascTo xs k) (hk : k + 1 < xs.length) (hx : ltS xs[k].Name xs[k + 1].Name = true) : ascTo xs (k + 1) := by
  intro i hi hik
  rcases Nat.lt_succ_iff_lt_or_eq.1 hik with hik | rfl
  · exact h i hi hik
  · exact hx
theorem ascTo_end {xs : List Node} {k : Nat} (h : ascTo xs k) (hk : xs.length ≤ k + 1) : ascB xs = true := by
  exact (ascB_iff xs).2 (fun i hi => h i hi (by omega))
theorem ascB_not {xs : List Node} {k : Nat} (hk : k + 1 < xs.length) (hx : ltS xs[k].Name xs[k + 1].Name = false) : ascB xs = false := by
  rw [Bool.eq_false_iff]
  intro h
  have := (ascB_iff xs).1 h k hk
  rw [this] at hx; cases hx
def checkWeb (w : Web) : Int :=
  if 60 < w.Nodes.length then 1 else if w.Nodes.all nodeNameOk = false then 2 else if ascB w.Nodes = false then 3 else if w.Nodes.all nodeActOk = false then 4 else 0
theorem checkWeb1 {w : Web} (h : 60 < w.Nodes.length) : checkWeb w = 1 := if_pos h
theorem checkWeb2 {w : Web} (h : ¬60 < w.Nodes.length) (h2 : w.Nodes.all nodeNameOk = false) : checkWeb w = 2 := by rw [checkWeb, if_neg h, if_pos h2]
theorem checkWeb3 {w : Web} (h : ¬60 < w.Nodes.length) (h2 : w.Nodes.all nodeNameOk = true) (h3 : ascB w.Nodes = false) : checkWeb w = 3 := by rw [checkWeb, if_neg h, if_neg (by simp [h2]), if_pos h3]
theorem checkWeb4 {w : Web} (h : ¬60 < w.Nodes.length) (h2 : w.Nodes.all nodeNameOk = true) (h3 : ascB w.Nodes = true) (h4 : w.Nodes.all nodeActOk = false) : checkWeb w = 4 := by rw [checkWeb, if_neg h, if_neg (by simp [h2]), if_neg (by simp [h3]), if_pos h4]
theorem checkWeb0 {w : Web} (h : ¬60 < w.Nodes.length) (h2 : w.Nodes.all nodeNameOk = true) (h3 : ascB w.Nodes = true) (h4 : w.Nodes.all nodeActOk = true) : checkWeb w = 0 := by rw [checkWeb, if_neg h, if_neg (by simp [h2]), if_neg (by simp [h3]), if_neg (by simp [h4])]
def Web.Sm (w : Web) : Prop := ∀ n ∈ w.Nodes, n.Action.Sm
end Go.Proofs.Ytmjfkjdfmpileaa.M
