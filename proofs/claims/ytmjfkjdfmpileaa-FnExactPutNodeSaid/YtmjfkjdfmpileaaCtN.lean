/- How many scalars a web has when a node was put in. -/
import Derived.Test.YtmjfkjdfmpileaaCtB
import Derived.Test.YtmjfkjdfmpileaaPuP
set_option linter.unusedVariables false
set_option linter.unusedSimpArgs false
namespace Go.Proofs.Ytmjfkjdfmpileaa.M
open Go.RowKit
theorem Iv.set {lo hi : Nat} {w : World} {ts : List T} {vs : List Value} (h : Iv lo hi w ts vs) {p : Addr} (hp : p.block < lo) (u : Value) : Iv lo hi (w.setCell p u) ts vs := by
  obtain ⟨F, h1, h2, h3⟩ := h
  exact ⟨F, h1.set (fun hk => by have := h3 _ hk; omega) u, h2, h3⟩
theorem Node.zsm {x : Node} (h : x.Zm) : x.Action.Sm := fun s hs => (h.2 s hs).2.2
theorem Node.cntl_le (s c : Nat) (x : Node) : cntl (x.c s c) ≤ 6 * (1 + x.bk) := by
  have := Steps.cnt_le s c x.Action.Steps
  show cnt (StepsT s c x.Action.Steps) + 0 ≤ _
  unfold Node.bk Action.bk; omega
theorem bs_append (xs ys : List Node) : Node.bs (xs ++ ys) = Node.bs xs + Node.bs ys := by
  unfold Node.bs bsOf
  rw [List.length_append, List.map_append, List.sum_append]; omega
theorem bs_cons (x : Node) (xs : List Node) : Node.bs (x :: xs) = 1 + x.bk + Node.bs xs := by
  unfold Node.bs bsOf
  rw [List.length_cons, List.map_cons, List.sum_cons]; omega
theorem bs_take (xs : List Node) (a : Nat) : Node.bs (xs.take a) + Node.bs (xs.drop a) = Node.bs xs := by
  rw [← bs_append, List.take_append_drop]
theorem bs_drop_le (xs : List Node) (a t : Nat) : Node.bs (xs.drop (a + t)) ≤ Node.bs (xs.drop a) := by
  rw [← List.drop_drop]
  have := bs_take (xs.drop a) t
  omega
theorem putWeb_cnt {n s c : Nat} (x : Web) (y : Node) : cntl ((putWeb x y).1.c n s c) ≤ 6 * x.bk + 6 * (1 + y.bk) := by
  have key : (putWeb x y).1.bk ≤ x.bk + (1 + y.bk) := by
    unfold Web.bk putWeb
    split
    · simp [Node.bs, bsOf]
    · split
      · simp [Node.bs, bsOf]
      · split
        · simp [Node.bs, bsOf]
        · simp only [putAll, bs_append, bs_cons]
          have h1 := bs_take x.Nodes (lbN x.Nodes y.Name)
          have h2 := bs_drop_le x.Nodes (lbN x.Nodes y.Name) (tB (hasN x.Nodes y.Name))
          omega
  have := Web.cnt_le (n := n) (s := s) (c := c) (putWeb x y).1
  omega
end Go.Proofs.Ytmjfkjdfmpileaa.M
