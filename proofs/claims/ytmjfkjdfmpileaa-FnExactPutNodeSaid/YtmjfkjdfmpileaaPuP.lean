/- Plain functions: a node put in its place. -/
import Derived.Test.YtmjfkjdfmpileaaPuN
set_option linter.unusedVariables false
set_option linter.unusedSimpArgs false
namespace Go.Proofs.Ytmjfkjdfmpileaa.M
open Go.RowKit
/-- the first k nodes passed, n put ahead of the one at place a (t: how many there go away: 0 or 1) -/
def putTo (xs : List Node) (a t : Nat) (n : Node) (k : Nat) : List Node := if k ≤ a then xs.take k else xs.take a ++ n :: (xs.take k).drop (a + t)
def putAll (xs : List Node) (a t : Nat) (n : Node) : List Node := xs.take a ++ n :: xs.drop (a + t)
theorem putTo_zero (xs : List Node) (a t : Nat) (n : Node) : putTo xs a t n 0 = [] := by simp [putTo]
theorem putTo_lt {xs : List Node} {a t : Nat} {n : Node} {k : Nat} (hk : k < xs.length) (h : k < a) : putTo xs a t n (k + 1) = putTo xs a t n k ++ [xs[k]] := by
  unfold putTo
  rw [if_pos (by omega), if_pos (by omega), List.take_succ_eq_append_getElem hk]
theorem putTo_at1 {xs : List Node} {a : Nat} {n : Node} (hk : a < xs.length) : putTo xs a 1 n (a + 1) = putTo xs a 1 n a ++ [n] := by
  unfold putTo
  rw [if_neg (by omega), if_pos (by omega), List.drop_of_length_le (by rw [List.length_take]; omega)]
theorem putTo_at0 {xs : List Node} {a : Nat} {n : Node} (hk : a < xs.length) : putTo xs a 0 n (a + 1) = (putTo xs a 0 n a ++ [n]) ++ [xs[a]] := by
  unfold putTo
  rw [if_neg (by omega), if_pos (by omega), List.take_succ_eq_append_getElem hk, Nat.add_zero, List.drop_append_of_le_length (by rw [List.length_take]; omega), List.drop_of_length_le (by rw [List.length_take]; omega)]
  simp
theorem putTo_gt {xs : List Node} {a t : Nat} {n : Node} {k : Nat} (hk : k < xs.length) (h : a < k) (ht : t ≤ 1) : putTo xs a t n (k + 1) = putTo xs a t n k ++ [xs[k]] := by
  unfold putTo
  rw [if_neg (by omega), if_neg (by omega), List.take_succ_eq_append_getElem hk, List.drop_append_of_le_length (by rw [List.length_take]; omega)]
  simp
theorem putTo_end {xs : List Node} {a t : Nat} {n : Node} (h : a < xs.length) : putTo xs a t n xs.length = putAll xs a t n := by
  unfold putTo putAll
  rw [if_neg (by omega), List.take_length]
theorem putTo_end2 {xs : List Node} {t : Nat} {n : Node} : putTo xs xs.length t n xs.length ++ [n] = putAll xs xs.length t n := by
  unfold putTo putAll
  rw [if_pos (Nat.le_refl _), List.take_length, List.drop_of_length_le (by omega)]
theorem putTo_len {xs : List Node} {a t : Nat} {n : Node} {k : Nat} (hk : k ≤ xs.length) : (putTo xs a t n k).length ≤ k + 1 := by
  unfold putTo
  split
  · rw [List.length_take]; omega
  · rw [List.length_append, List.length_cons, List.length_drop, List.length_take, List.length_take]; omega
def tB (b : Bool) : Nat := if b then 1 else 0
def putWeb (w : Web) (n : Node) : Web × Int :=
  if checkWeb w ≠ 0 then (⟨[]⟩, 1) else if (nameOk n.Name && actionOk n.Action) = false then (⟨[]⟩, 2) else if hasN w.Nodes n.Name = false ∧ w.Nodes.length = 60 then (⟨[]⟩, 3)
  else (⟨putAll w.Nodes (lbN w.Nodes n.Name) (tB (hasN w.Nodes n.Name)) n⟩, 0)
/-- what is left without the node, around its place -/
theorem drop_parts {xs : List Node} {name : ByteArray} {a : Nat} (h : FindAt xs name a) (ha : Asc (xs.map Node.Name)) : dropNodes xs name = xs.take a ++ xs.drop (a + tB (hasN xs name)) := by
  unfold dropNodes
  conv => lhs; rw [← List.take_append_drop a xs, List.filter_append]
  have h1 : (xs.take a).filter (neN name) = xs.take a := by
    rw [List.filter_eq_self]
    intro n hn
    obtain ⟨i, hi, rfl⟩ := List.getElem_of_mem hn
    have hi' : i < a ∧ i < xs.length := by simp at hi; omega
    rw [List.getElem_take, neN_iff]
    exact ltS_ne (h.2.1 i hi'.2 hi'.1)
  rw [h1]
  congr 1
  by_cases hlt : a < xs.length
  · rw [List.drop_eq_getElem_cons hlt, List.filter_cons]
    have h2 : (xs.drop (a + 1)).filter (neN name) = xs.drop (a + 1) := by
      rw [List.filter_eq_self]
      intro n hn
      obtain ⟨i, hi, rfl⟩ := List.getElem_of_mem hn
      have hi' : a + 1 + i < xs.length := by simp at hi; omega
      rw [List.getElem_drop, neN_iff]
      intro e
      have h3 := asc_mono ha (show a < a + 1 + i by omega) hi'
      have h4 := h.2.2 a hlt (Nat.le_refl _)
      rw [e] at h3
      rw [h3] at h4; cases h4
    have ht := h.there ha
    cases hq : hasN xs name with
    | true =>
      obtain ⟨_, e⟩ := ht.1 hq
      rw [if_neg (by rw [neN_iff]; simp [e]), h2]; rfl
    | false =>
      have hne : xs[a].Name ≠ name := fun e => by rw [ht.2 ⟨hlt, e⟩] at hq; cases hq
      rw [if_pos ((neN_iff _ _).2 hne), h2]
      show _ = xs.drop (a + 0)
      rw [Nat.add_zero]; exact (List.drop_eq_getElem_cons hlt).symm
  · rw [List.drop_of_length_le (by omega), List.drop_of_length_le (by omega)]; rfl
theorem drop_len {xs : List Node} {name : ByteArray} {a : Nat} (h : FindAt xs name a) (ha : Asc (xs.map Node.Name)) : (dropNodes xs name).length + tB (hasN xs name) = xs.length := by
  rw [drop_parts h ha, List.length_append, List.length_take, List.length_drop]
  have ht := h.there ha
  have := h.1
  cases hq : hasN xs name with
  | true => obtain ⟨hlt, _⟩ := ht.1 hq; simp [tB]; omega
  | false => simp [tB]; omega
/-- the place of the name among what is left -/
theorem drop_find {xs : List Node} {name : ByteArray} {a : Nat} (h : FindAt xs name a) (ha : Asc (xs.map Node.Name)) : ∀ (i : Nat) (hi : i < (dropNodes xs name).length), ltS name ((dropNodes xs name)[i]).Name = decide (a ≤ i) := by
  intro i hi
  have hp := drop_parts h ha
  have hla : (xs.take a).length = a := by rw [List.length_take]; have := h.1; omega
  have key : (dropNodes xs name)[i]? = (xs.take a ++ xs.drop (a + tB (hasN xs name)))[i]? := by rw [hp]
  rw [List.getElem?_eq_getElem hi] at key
  by_cases hia : i < a
  · rw [List.getElem?_append_left (by omega)] at key
    have hx : i < xs.length := by have := h.1; omega
    rw [List.getElem?_take, if_pos hia, List.getElem?_eq_getElem hx] at key
    rw [Option.some.inj key, ltS_asymm (h.2.1 i hx hia)]
    simp; omega
  · rw [List.getElem?_append_right (by omega), hla, List.getElem?_drop] at key
    obtain ⟨hx, e⟩ := List.getElem?_eq_some_iff.1 key.symm
    rw [← e]
    have hge := h.2.2 (a + tB (hasN xs name) + (i - a)) hx (by omega)
    have hne : xs[a + tB (hasN xs name) + (i - a)].Name ≠ name := by
      intro e2
      have hhas : hasN xs name = true := (hasN_iff _ _).2 ⟨_, List.getElem_mem hx, e2⟩
      obtain ⟨hlt, e3⟩ := (h.there ha).1 hhas
      have h3 := asc_mono ha (i := a) (j := a + tB (hasN xs name) + (i - a)) (by rw [hhas]; simp [tB]; omega) hx
      rw [e2, e3, ltS_irr] at h3; cases h3
    have : ltS name xs[a + tB (hasN xs name) + (i - a)].Name = true := by
      cases hq : ltS name xs[a + tB (hasN xs name) + (i - a)].Name with
      | true => rfl
      | false => exact absurd (ltS_tri hge hq) hne
    rw [this]; simp; omega
theorem put_of_drop {xs : List Node} {n : Node} {a : Nat} (h : FindAt xs n.Name a) (ha : Asc (xs.map Node.Name)) : putAll (dropNodes xs n.Name) a 0 n = putAll xs a (tB (hasN xs n.Name)) n := by
  have hp := drop_parts h ha
  have hla : (xs.take a).length = a := by rw [List.length_take]; have := h.1; omega
  unfold putAll
  rw [hp, Nat.add_zero, List.take_append_of_le_length (by omega), List.take_take, Nat.min_self, List.drop_append_of_le_length (by omega), List.drop_of_length_le (by omega)]
  rfl
theorem findAt_lb : ∀ {xs : List Node} (name : ByteArray), Asc (xs.map Node.Name) → FindAt xs name (lbN xs name)
  | [], name, _ => ⟨Nat.le_refl _, fun i h => absurd h (by simp), fun i h => absurd h (by simp)⟩
  | x :: xs, name, ha => by
    have ha' : Asc (xs.map Node.Name) := by unfold Asc at *; rw [List.map_cons, List.pairwise_cons] at ha; exact ha.2
    have ih := findAt_lb name ha'
    by_cases hx : ltS x.Name name = true
    · have e : lbN (x :: xs) name = lbN xs name + 1 := by unfold lbN; rw [List.takeWhile_cons, if_pos hx, List.length_cons]
      rw [e]
      refine ⟨by have := ih.1; simp; omega, fun i hi hk => ?_, fun i hi hk => ?_⟩
      · cases i with
        | zero => exact hx
        | succ i => exact ih.2.1 i (by simpa using hi) (by omega)
      · cases i with
        | zero => omega
        | succ i => exact ih.2.2 i (by simpa using hi) (by omega)
    · have e : lbN (x :: xs) name = 0 := by unfold lbN; rw [List.takeWhile_cons, if_neg hx]; rfl
      rw [e]
      exact ⟨Nat.zero_le _, fun i _ h => absurd h (Nat.not_lt_zero _), fun i hi _ => asc_ge ha name (Nat.zero_le i) hi (Bool.eq_false_iff.2 hx)⟩
end Go.Proofs.Ytmjfkjdfmpileaa.M
