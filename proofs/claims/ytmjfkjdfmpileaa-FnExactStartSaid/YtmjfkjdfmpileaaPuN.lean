/- Plain functions: the order of names; the place of a name; nodes put and dropped. -/
import Derived.Test.YtmjfkjdfmpileaaPuW
import Derived.Sort.Walk0
set_option linter.unusedVariables false
set_option linter.unusedSimpArgs false
namespace Go.Proofs.Ytmjfkjdfmpileaa.M
open Go.RowKit
theorem ltS_eq (a b : ByteArray) : ltS a b = decide (a.toList < b.toList) := bytesLess_eq _ _
theorem ltS_iff (a b : ByteArray) : ltS a b = true ↔ a.toList < b.toList := by rw [ltS_eq]; simp
theorem ltS_not (a b : ByteArray) : ltS a b = false ↔ b.toList ≤ a.toList := by rw [ltS_eq, decide_eq_false_iff_not]; exact List.not_lt
theorem toList_inj {a b : ByteArray} (h : a.toList = b.toList) : a = b := (ba_eq a b).1 (by rw [h]; simp)
theorem ltS_irr (a : ByteArray) : ltS a a = false := (ltS_not a a).2 (List.le_refl _)
theorem ltS_trans {a b c : ByteArray} (h : ltS a b = true) (k : ltS b c = true) : ltS a c = true := (ltS_iff _ _).2 (List.lt_trans ((ltS_iff _ _).1 h) ((ltS_iff _ _).1 k))
theorem ltS_asymm {a b : ByteArray} (h : ltS a b = true) : ltS b a = false := (ltS_not _ _).2 (List.le_of_lt ((ltS_iff _ _).1 h))
theorem ltS_tri {a b : ByteArray} (h : ltS a b = false) (k : ltS b a = false) : a = b := toList_inj (List.le_antisymm ((ltS_not _ _).1 k) ((ltS_not _ _).1 h))
theorem ltS_ne {a b : ByteArray} (h : ltS a b = true) : a ≠ b := by rintro rfl; rw [ltS_irr] at h; cases h
theorem ltS_lt_le {a b c : ByteArray} (h : ltS a b = true) (k : ltS c b = false) : ltS a c = true := (ltS_iff _ _).2 (Std.lt_of_lt_of_le ((ltS_iff _ _).1 h) ((ltS_not _ _).1 k))
theorem ltS_le_lt {a b c : ByteArray} (h : ltS b a = false) (k : ltS b c = true) : ltS a c = true := (ltS_iff _ _).2 (Std.lt_of_le_of_lt ((ltS_not _ _).1 h) ((ltS_iff _ _).1 k))
/-- ascending names -/
def Asc (xs : List ByteArray) : Prop := xs.Pairwise fun a b => ltS a b = true
theorem ascB_asc : ∀ {xs : List Node}, ascB xs = true → Asc (xs.map Node.Name)
  | [], _ => List.Pairwise.nil
  | [a], _ => by simp [Asc]
  | a :: b :: r, h => by
    rw [ascB, Bool.and_eq_true] at h
    have ih := ascB_asc h.2
    unfold Asc at *
    rw [List.map_cons, List.pairwise_cons]
    refine ⟨fun x hx => ?_, ih⟩
    rw [List.map_cons, List.mem_cons] at hx
    rcases hx with rfl | hx
    · exact h.1
    · exact ltS_trans h.1 (List.rel_of_pairwise_cons ih hx)
theorem asc_ascB : ∀ {xs : List Node}, Asc (xs.map Node.Name) → ascB xs = true
  | [], _ => rfl
  | [a], _ => rfl
  | a :: b :: r, h => by
    unfold Asc at h
    rw [List.map_cons, List.pairwise_cons] at h
    rw [ascB, Bool.and_eq_true]
    exact ⟨h.1 _ (by simp), asc_ascB h.2⟩
/-- the place of a name: how many names are less -/
def lbN (xs : List Node) (name : ByteArray) : Nat := (xs.takeWhile fun n => ltS n.Name name).length
def hasN (xs : List Node) (name : ByteArray) : Bool := xs.any fun n => n.Name.toList == name.toList
theorem hasN_iff (xs : List Node) (name : ByteArray) : hasN xs name = true ↔ ∃ n ∈ xs, n.Name = name := by
  unfold hasN; rw [List.any_eq_true]
  exact ⟨fun ⟨n, h, k⟩ => ⟨n, h, (ba_eq _ _).1 k⟩, fun ⟨n, h, k⟩ => ⟨n, h, (ba_eq _ _).2 k⟩⟩
/-- what a search finds: all below are less, none from there on is -/
def FindAt (xs : List Node) (name : ByteArray) (k : Nat) : Prop := k ≤ xs.length ∧ (∀ (i : Nat) (h : i < xs.length), i < k → ltS xs[i].Name name = true) ∧ (∀ (i : Nat) (h : i < xs.length), k ≤ i → ltS xs[i].Name name = false)
theorem FindAt.lb : ∀ {xs : List Node} {name : ByteArray} {k : Nat}, FindAt xs name k → lbN xs name = k
  | [], name, k, h => by have := h.1; simp at this; subst this; rfl
  | x :: xs, name, 0, h => by
    have := h.2.2 0 (by simp) (by omega)
    simp at this
    unfold lbN; rw [List.takeWhile_cons, if_neg (by simp [this])]; rfl
  | x :: xs, name, k + 1, h => by
    have h0 := h.2.1 0 (by simp) (by omega)
    simp at h0
    have ih : lbN xs name = k := FindAt.lb ⟨by have := h.1; simp at this; omega, fun i hi hk => h.2.1 (i + 1) (by simp; omega) (by omega), fun i hi hk => h.2.2 (i + 1) (by simp; omega) (by omega)⟩
    unfold lbN at *; rw [List.takeWhile_cons, if_pos h0, List.length_cons, ih]
theorem asc_mono {xs : List Node} (h : Asc (xs.map Node.Name)) {i j : Nat} (hij : i < j) (hj : j < xs.length) : ltS xs[i].Name xs[j].Name = true := by
  have := List.pairwise_iff_getElem.1 h i j (by simp; omega) (by simpa using hj) hij
  simpa using this
/-- the test of the search is monotone -/
theorem asc_ge {xs : List Node} (h : Asc (xs.map Node.Name)) (name : ByteArray) {i j : Nat} (hij : i ≤ j) (hj : j < xs.length) (hi : ltS xs[i].Name name = false) : ltS xs[j].Name name = false := by
  rcases Nat.lt_or_eq_of_le hij with hlt | rfl
  · cases hq : ltS xs[j].Name name with
    | false => rfl
    | true => rw [ltS_trans (asc_mono h hlt hj) hq] at hi; cases hi
  · exact hi
theorem FindAt.there {xs : List Node} {name : ByteArray} {k : Nat} (h : FindAt xs name k) (ha : Asc (xs.map Node.Name)) : hasN xs name = true ↔ ∃ hk : k < xs.length, xs[k].Name = name := by
  rw [hasN_iff]
  constructor
  · rintro ⟨n, hn, rfl⟩
    obtain ⟨i, hi, rfl⟩ := List.getElem_of_mem hn
    have h1 : k ≤ i := by
      rcases Nat.lt_or_ge i k with hlt | hge
      · have := h.2.1 i hi hlt; rw [ltS_irr] at this; cases this
      · exact hge
    rcases Nat.lt_or_eq_of_le h1 with hlt | rfl
    · have h2 := asc_mono ha hlt hi
      rw [h.2.2 k (by omega) (Nat.le_refl _)] at h2; cases h2
    · exact ⟨hi, rfl⟩
  · rintro ⟨hk, e⟩; exact ⟨_, List.getElem_mem hk, e⟩
/-! ### dropping -/
def neN (name : ByteArray) (n : Node) : Bool := !(n.Name.toList == name.toList)
def dropNodes (xs : List Node) (name : ByteArray) : List Node := xs.filter (neN name)
theorem neN_iff (name : ByteArray) (n : Node) : neN name n = true ↔ n.Name ≠ name := by
  unfold neN; rw [Bool.not_eq_true', Bool.eq_false_iff, Ne, ba_eq]
def filTo {α : Type} (p : α → Bool) (xs : List α) (k : Nat) : List α := (xs.take k).filter p
theorem filTo_zero {α : Type} (p : α → Bool) (xs : List α) : filTo p xs 0 = [] := by simp [filTo]
theorem filTo_yes {α : Type} {p : α → Bool} {xs : List α} {k : Nat} (h : k < xs.length) (hp : p xs[k] = true) : filTo p xs (k + 1) = filTo p xs k ++ [xs[k]] := by
  unfold filTo; rw [List.take_succ_eq_append_getElem h, List.filter_append]; simp [hp]
theorem filTo_no {α : Type} {p : α → Bool} {xs : List α} {k : Nat} (h : k < xs.length) (hp : p xs[k] = false) : filTo p xs (k + 1) = filTo p xs k := by
  unfold filTo; rw [List.take_succ_eq_append_getElem h, List.filter_append]; simp [hp]
theorem filTo_end {α : Type} (p : α → Bool) (xs : List α) : filTo p xs xs.length = xs.filter p := by simp [filTo]
theorem filTo_len {α : Type} (p : α → Bool) (xs : List α) (k : Nat) : (filTo p xs k).length ≤ k := by
  unfold filTo; exact Nat.le_trans (List.length_filter_le _ _) (by rw [List.length_take]; omega)
theorem drop_at {xs : List Node} {name : ByteArray} {a i : Nat} (h : FindAt xs name a) (ha : Asc (xs.map Node.Name)) (ht : hasN xs name = true) (hi : i < xs.length) : neN name xs[i] = !decide (i = a) := by
  obtain ⟨hk, e⟩ := (h.there ha).1 ht
  rw [Bool.eq_iff_iff, neN_iff]
  constructor
  · intro hn
    by_cases e2 : i = a
    · subst e2; exact absurd e hn
    · simp [e2]
  · intro hn he
    have hne : i ≠ a := by simpa using hn
    rcases Nat.lt_or_gt_of_ne hne with hlt | hlt
    · have h2 := asc_mono ha hlt hk
      rw [he, e, ltS_irr] at h2; cases h2
    · have h2 := asc_mono ha hlt hi
      rw [he, e, ltS_irr] at h2; cases h2
def dropWeb (w : Web) (name : ByteArray) : Web × Int :=
  if checkWeb w ≠ 0 then (⟨[]⟩, 1) else if nameOk name = false then (⟨[]⟩, 2) else if hasN w.Nodes name = false then (⟨[]⟩, 4) else (⟨dropNodes w.Nodes name⟩, 0)
theorem checkWeb_ok {w : Web} (h : checkWeb w = 0) : w.Nodes.length ≤ 60 ∧ w.Nodes.all nodeNameOk = true ∧ ascB w.Nodes = true ∧ w.Nodes.all nodeActOk = true := by
  unfold checkWeb at h
  split at h; · cases h
  split at h; · cases h
  split at h; · cases h
  split at h; · cases h
  rename_i h1 h2 h3 h4
  exact ⟨by omega, by simpa using h2, by simpa using h3, by simpa using h4⟩
/-! ### the place of a name, -1 if there is none -/
def nmB (name : ByteArray) (n : Node) : Bool := n.Name.toList == name.toList
def atN (xs : List Node) (name : ByteArray) : Int := match xs.findIdx? (nmB name) with
  | some i => i
  | none => -1
def noTo (xs : List Node) (name : ByteArray) (k : Nat) : Prop := ∀ (i : Nat) (h : i < xs.length), i < k → nmB name xs[i] = false
theorem noTo_zero (xs : List Node) (name : ByteArray) : noTo xs name 0 := fun _ _ h => absurd h (Nat.not_lt_zero _)
theorem noTo_succ {xs : List Node} {name : ByteArray} {k : Nat} (h : noTo xs name k) (hk : k < xs.length) (hx : nmB name xs[k] = false) : noTo xs name (k + 1) := by
  intro i hi hik
  rcases Nat.lt_succ_iff_lt_or_eq.1 hik with hik | rfl
  · exact h i hi hik
  · exact hx
theorem atN_yes {xs : List Node} {name : ByteArray} {k : Nat} (h : noTo xs name k) (hk : k < xs.length) (hx : nmB name xs[k] = true) : atN xs name = k := by
  have : xs.findIdx? (nmB name) = some k := by
    rw [List.findIdx?_eq_some_iff_getElem]
    exact ⟨hk, hx, fun j hj => by rw [h j (by omega) hj]; simp⟩
  unfold atN; rw [this]
theorem atN_no {xs : List Node} {name : ByteArray} (h : noTo xs name xs.length) : atN xs name = -1 := by
  have : xs.findIdx? (nmB name) = none := by
    rw [List.findIdx?_eq_none_iff]
    intro x hx
    obtain ⟨i, hi, rfl⟩ := List.getElem_of_mem hx
    exact h i hi hi
  unfold atN; rw [this]
theorem atN_neg (xs : List Node) (name : ByteArray) : atN xs name < 0 ↔ hasN xs name = false := by
  unfold atN
  cases hf : xs.findIdx? (nmB name) with
  | none =>
    rw [List.findIdx?_eq_none_iff] at hf
    refine ⟨fun _ => ?_, fun _ => by decide⟩
    unfold hasN; rw [List.any_eq_false]
    intro x hx; have := hf x hx; unfold nmB at this; simp [this]
  | some i =>
    rw [List.findIdx?_eq_some_iff_getElem] at hf
    obtain ⟨hi, hx, _⟩ := hf
    refine ⟨fun h => by simp at h; omega, fun h => ?_⟩
    unfold hasN at h; rw [List.any_eq_false] at h
    exact absurd hx (h _ (List.getElem_mem hi))
end Go.Proofs.Ytmjfkjdfmpileaa.M
