/- How many scalars a web has, against its size. -/
import Derived.Test.YtmjfkjdfmpileaaIv
import Derived.Test.YtmjfkjdfmpileaaSzB
import Derived.Test.YtmjfkjdfmpileaaPuN
set_option linter.unusedVariables false
set_option linter.unusedSimpArgs false
namespace Go.Proofs.Ytmjfkjdfmpileaa.M
open Go.RowKit
theorem strs_cnt (t : Nat) (xs : List ByteArray) : cnt (strsT t xs) ≤ bkS xs := by
  have := cnts_flat strC ByteArray.size 1 (by omega) xs (fun x _ => by simp [strC, cnts, cnt])
  unfold bkS bsOf
  show cnts (xs.flatMap strC) ≤ _
  omega
theorem Case.cnt_le (x : Case) : cnts x.c ≤ 2 * (1 + x.bk) := by simp [Case.c, cnts, cnt]; omega
theorem Cases.cnt_le (t : Nat) (xs : List Case) : cnt (CasesT t xs) ≤ 2 * Case.bs xs := by
  have := cnts_flat Case.c Case.bk 2 (by omega) xs (fun x _ => x.cnt_le)
  show cnts (xs.flatMap Case.c) ≤ _
  unfold Case.bs bsOf; omega
theorem Step.cnt_le (c : Nat) (x : Step) : cnts (x.c c) ≤ 6 * (1 + x.bk) := by
  have h1 := strs_cnt 9 x.Asks
  have h2 := Cases.cnt_le c x.Cases
  simp only [Step.c, cnts]
  simp only [cnt] at h1 h2 ⊢
  unfold Step.bk
  have e1 : cnt (strsT 9 x.Asks) = cnts (x.Asks.flatMap strC) := rfl
  have e2 : cnt (CasesT c x.Cases) = cnts (x.Cases.flatMap Case.c) := rfl
  omega
theorem Steps.cnt_le (s c : Nat) (xs : List Step) : cnt (StepsT s c xs) ≤ 6 * Step.bs xs := by
  have := cnts_flat (Step.c c) Step.bk 6 (by omega) xs (fun x _ => x.cnt_le c)
  show cnts (xs.flatMap (Step.c c)) ≤ _
  unfold Step.bs bsOf; omega
theorem Node.cnt_le (s c : Nat) (x : Node) : cnts (x.c s c) ≤ 6 * (1 + x.bk) := by
  have h2 := Steps.cnt_le s c x.Action.Steps
  simp only [Node.c, cnts]
  have e1 : cnt (.s x.Name) = 1 := by simp [cnt]
  have e2 : cnt (.i .i64 x.Action.Cost) = 1 := by simp [cnt]
  unfold Node.bk Action.bk
  omega
theorem Nodes.cnt_le (n s c : Nat) (xs : List Node) : cnt (NodesT n s c xs) ≤ 6 * Node.bs xs := by
  have := cnts_flat (Node.c s c) Node.bk 6 (by omega) xs (fun x _ => x.cnt_le s c)
  show cnts (xs.flatMap (Node.c s c)) ≤ _
  unfold Node.bs bsOf; omega
theorem Web.cnt_le {n s c : Nat} (x : Web) : cntl (x.c n s c) ≤ 6 * x.bk := by
  have := Nodes.cnt_le n s c x.Nodes
  show cntl [NodesT n s c x.Nodes] ≤ _
  unfold Web.bk
  have e : cntl [NodesT n s c x.Nodes] = cnt (NodesT n s c x.Nodes) := cntl_one _ _ _ _
  omega
theorem bs_filter (p : Node → Bool) : ∀ (xs : List Node), Node.bs (xs.filter p) ≤ Node.bs xs
  | [] => Nat.le_refl _
  | x :: xs => by
    have ih := bs_filter p xs
    unfold Node.bs bsOf at *
    rw [List.filter_cons]
    split <;> simp only [List.length_cons, List.map_cons, List.sum_cons] <;> omega
theorem dropWeb_cnt {n s c : Nat} (x : Web) (name : ByteArray) : cntl ((dropWeb x name).1.c n s c) ≤ 6 * x.bk := by
  refine Nat.le_trans (Web.cnt_le _) (Nat.mul_le_mul_left _ ?_)
  unfold Web.bk dropWeb
  split
  · simp [Node.bs, bsOf]
  · split
    · simp [Node.bs, bsOf]
    · split
      · simp [Node.bs, bsOf]
      · exact bs_filter _ _
theorem Web.zsm {x : Web} (h : x.Zm) : x.Sm := fun n hn s hs => ((h n hn).2 s hs).2.2
theorem Far.trans3 {lo hi : Nat} {w W w' : World} (hb : Below w.heap.size w W) (h : Far lo hi W w') (hB : w.heap.size ≤ lo ∨ hi = 0) : Below w.heap.size w w' := Far.trans2 hb h hB hb.size
end Go.Proofs.Ytmjfkjdfmpileaa.M
