/- Plain functions: what the functions of kilnweb compute (actions and webs). No program in sight. -/
import Derived.Test.YtmjfkjdfmpileaaData
set_option linter.unusedVariables false
set_option linter.unusedSimpArgs false
namespace Go.Proofs.Ytmjfkjdfmpileaa.M
open Go.RowKit
def inB (a b c : Int) : Bool := decide (b ≤ a ∧ a ≤ c)
def okB (x : UInt8) : Bool := !(x < 33 || x > 126 || x == 44)
def nameOk (s : ByteArray) : Bool := inB s.size 1 20 && !(s.toList == [45]) && s.data.toList.all okB
def namesOk (l : List ByteArray) : Bool := l.all nameOk && decide l.Nodup
def caseOk (n : Int) (c : Case) : Bool := decide (c.Text.size ≤ 200) && inB c.Goto 0 (n - 1)
def endOk (s : Step) : Bool := decide (s.Give.size ≤ 30) && s.Asks.isEmpty && s.On == 0 && s.Cases.isEmpty && s.Else == 0 && s.Fall == 0
def preOk (s : Step) (n : Int) : Bool := !s.Bad && s.Give.toList.isEmpty && decide (s.Asks.length ≤ 5) && decide (s.Cases.length ≤ 5) && inB s.Else 0 (n - 1) && inB s.Fall (-1) (n - 1)
def onOk (s : Step) : Bool := if s.Asks.isEmpty then s.On == 0 else inB s.On 0 (s.Asks.length - 1)
def stepOk (s : Step) (n : Int) : Bool := if s.End then endOk s else preOk s n && namesOk s.Asks && onOk s && s.Cases.all (caseOk n)
def stepOkN (n : Nat) (s : Step) : Bool := stepOk s n
def actionOk (a : Action) : Bool := inB a.Cost 1 20 && inB a.Steps.length 1 20 && a.Steps.all (stepOkN a.Steps.length)
/-- the texts of a step, an action are no longer than a size can tell -/
def Step.Sm (s : Step) : Prop := s.Give.size ≤ 9223372036854775807
def Action.Sm (a : Action) : Prop := ∀ s ∈ a.Steps, s.Sm

theorem str_get (s : ByteArray) (k : Nat) (h : k < s.size) : s.data.toList.drop k = s[k] :: s.data.toList.drop (k + 1) := by
  rw [List.drop_eq_getElem_cons (by simpa using h)]; rfl
theorem str_take (s : ByteArray) (k : Nat) (h : k < s.size) : s.data.toList.take (k + 1) = s.data.toList.take k ++ [s[k]] := by
  rw [List.take_succ_eq_append_getElem (by simpa using h)]; rfl
theorem okB_iff (x : UInt8) : okB x = true ↔ 33 ≤ (x.toNat : Int) ∧ (x.toNat : Int) ≤ 126 ∧ ((x.toNat : Int) == 44) = false := by
  have h : (x == 44) = ((x.toNat : Int) == 44) := by rw [Bool.eq_iff_iff]; simp [← UInt8.toNat_inj]; omega
  simp only [okB, h, Bool.not_eq_true', Bool.or_eq_false_iff, decide_eq_false_iff_not, UInt8.lt_iff_toNat_lt, UInt8.toNat_ofNat, GT.gt]
  constructor
  · rintro ⟨⟨h1, h2⟩, h3⟩
    exact ⟨by simp at h1; omega, by simp at h2; omega, h3⟩
  · rintro ⟨h1, h2, h3⟩
    exact ⟨⟨by simp; omega, by simp; omega⟩, h3⟩
theorem okB_not (x : UInt8) (h : ((x.toNat : Int) < 33 ∨ 126 < (x.toNat : Int)) ∨ (x.toNat : Int) = 44) : okB x = false := by
  rw [Bool.eq_false_iff]; intro hk; obtain ⟨a, b, c⟩ := (okB_iff x).1 hk
  have c := beq_eq_false_iff_ne.1 c
  omega
def okTo (s : ByteArray) (k : Nat) : Prop := (s.data.toList.take k).all okB = true
theorem okTo_succ (s : ByteArray) (k : Nat) (h : k < s.size) (hA : okTo s k) (hx : okB s[k] = true) : okTo s (k + 1) := by
  unfold okTo at *; rw [str_take s k h, List.all_append, hA]; simp [hx]
theorem okTo_all (s : ByteArray) (h : okTo s s.size) : s.data.toList.all okB = true := by
  unfold okTo at h; rwa [List.take_of_length_le (by simp)] at h
theorem all_not (s : ByteArray) (k : Nat) (h : k < s.size) (hx : okB s[k] = false) : s.data.toList.all okB = false := by
  rw [← List.take_append_drop k s.data.toList, str_get s k h, List.all_append, List.all_cons, hx]; simp
theorem Hid.mk' {p : Prop} (h : p) : Hid p := h
theorem ba_eq (a b : ByteArray) : (a.toList == b.toList) = true ↔ a = b := by
  rw [beq_iff_eq]
  constructor
  · intro h
    rw [ByteArray.toList_eq, ByteArray.toList_eq] at h
    exact ByteArray.ext (Array.toList_inj.mp h)
  · rintro rfl; rfl
def notTo (xs : List ByteArray) (x : ByteArray) (k : Nat) : Prop := ∀ (i : Nat) (h : i < xs.length), i < k → xs[i] ≠ x
theorem notTo_zero (xs : List ByteArray) (x : ByteArray) : notTo xs x 0 := fun i _ h => absurd h (Nat.not_lt_zero _)
theorem notTo_succ {xs : List ByteArray} {x : ByteArray} {k : Nat} (h : notTo xs x k) (hk : k < xs.length) (hx : ¬(x.toList == xs[k].toList) = true) : notTo xs x (k + 1) := by
  intro i hl hi
  rcases Nat.lt_succ_iff_lt_or_eq.1 hi with hi | rfl
  · exact h i hl hi
  · intro e; exact hx ((ba_eq _ _).2 e.symm)
theorem notTo_end {xs : List ByteArray} {x : ByteArray} (h : notTo xs x xs.length) : x ∉ xs := by
  intro hx
  obtain ⟨i, hi, rfl⟩ := List.getElem_of_mem hx
  exact h i hi hi rfl
theorem mem_at {xs : List ByteArray} {x : ByteArray} {k : Nat} (hk : k < xs.length) (hx : (x.toList == xs[k].toList) = true) : x ∈ xs := by
  have hx := (ba_eq _ _).1 hx
  exact hx ▸ List.getElem_mem hk
/-- the names up to a place are names, no two the same -/
def nmTo (xs : List ByteArray) (k : Nat) : Prop := ∀ (i : Nat) (h : i < xs.length), i < k → nameOk xs[i] = true ∧ xs[i] ∉ xs.take i
theorem nmTo_zero (xs : List ByteArray) : nmTo xs 0 := fun i _ h => absurd h (Nat.not_lt_zero _)
theorem nmTo_succ {xs : List ByteArray} {k : Nat} (h : nmTo xs k) (hk : k < xs.length) (h1 : nameOk xs[k] = true) (h2 : xs[k] ∉ xs.take k) : nmTo xs (k + 1) := by
  intro i hl hi
  rcases Nat.lt_succ_iff_lt_or_eq.1 hi with hi | rfl
  · exact h i hl hi
  · exact ⟨h1, h2⟩
theorem namesOk_iff (xs : List ByteArray) : namesOk xs = true ↔ nmTo xs xs.length := by
  unfold namesOk nmTo
  simp only [Bool.and_eq_true, List.all_eq_true, decide_eq_true_eq]
  constructor
  · rintro ⟨h1, h2⟩ i hl _
    refine ⟨h1 _ (List.getElem_mem hl), fun hm => ?_⟩
    obtain ⟨j, hj, e⟩ := List.getElem_of_mem hm
    have hj' : j < i := by simp at hj; omega
    rw [List.getElem_take] at e
    have := (List.getElem_inj h2 (i := j) (j := i) (h₀ := by omega) (h₁ := hl)).1 e
    omega
  · intro h
    refine ⟨fun x hx => ?_, ?_⟩
    · obtain ⟨i, hi, rfl⟩ := List.getElem_of_mem hx
      exact (h i hi hi).1
    · rw [List.nodup_iff_pairwise_ne, List.pairwise_iff_getElem]
      intro i j hi hj hij e
      refine (h j hj hj).2 ?_
      rw [← e]
      exact List.mem_take_iff_getElem.2 ⟨i, by omega, rfl⟩
theorem namesOk_not {xs : List ByteArray} {k : Nat} (hk : k < xs.length) (h : nameOk xs[k] = false ∨ xs[k] ∈ xs.take k) : namesOk xs = false := by
  rw [Bool.eq_false_iff]
  intro hn
  obtain ⟨h1, h2⟩ := (namesOk_iff xs).1 hn k hk hk
  rcases h with h | h
  · rw [h] at h1; cases h1
  · exact h2 h
/-- the elements up to a place are good -/
def allTo {α : Type} (p : α → Bool) (xs : List α) (k : Nat) : Prop := (xs.take k).all p = true
theorem allTo_zero {α : Type} (p : α → Bool) (xs : List α) : allTo p xs 0 := by simp [allTo]
theorem allTo_succ {α : Type} {p : α → Bool} {xs : List α} {k : Nat} (h : allTo p xs k) (hk : k < xs.length) (hp : p xs[k] = true) : allTo p xs (k + 1) := by
  unfold allTo at *
  rw [List.take_succ_eq_append_getElem hk, List.all_append, h]; simp [hp]
theorem allTo_end {α : Type} {p : α → Bool} {xs : List α} (h : allTo p xs xs.length) : xs.all p = true := by
  unfold allTo at h; rwa [List.take_length] at h
theorem allTo_not {α : Type} {p : α → Bool} {xs : List α} {k : Nat} (hk : k < xs.length) (hp : p xs[k] = false) : xs.all p = false := by
  rw [List.all_eq_false]; exact ⟨_, List.getElem_mem hk, by simp [hp]⟩
theorem preOk_iff {s : Step} {n : Int} (h : preOk s n = true) : s.Bad = false ∧ s.Give.toList = [] ∧ s.Asks.length ≤ 5 ∧ s.Cases.length ≤ 5 ∧ inB s.Else 0 (n - 1) = true ∧ inB s.Fall (-1) (n - 1) = true := by
  simp [preOk] at h; obtain ⟨⟨⟨⟨⟨h1, h2⟩, h3⟩, h4⟩, h5⟩, h6⟩ := h; exact ⟨h1, h2, h3, h4, h5, h6⟩
theorem stepOk_pre {s : Step} {n : Int} (hE : s.End = false) (h : ¬preOk s n = true) : stepOk s n = false := by simp [stepOk, hE, h]
theorem stepOk_names {s : Step} {n : Int} (hE : s.End = false) (h : namesOk s.Asks = false) : stepOk s n = false := by simp [stepOk, hE, h]
theorem stepOk_on {s : Step} {n : Int} (hE : s.End = false) (h : onOk s = false) : stepOk s n = false := by simp [stepOk, hE, h]
theorem stepOk_cases {s : Step} {n : Int} (hE : s.End = false) (h : s.Cases.all (caseOk n) = false) : stepOk s n = false := by simp only [stepOk, hE, h]; simp
theorem stepOk_yes {s : Step} {n : Int} (hE : s.End = false) (h1 : preOk s n = true) (h2 : namesOk s.Asks = true) (h3 : onOk s = true) (h4 : s.Cases.all (caseOk n) = true) : stepOk s n = true := by simp only [stepOk, hE, h1, h2, h3, h4]; simp
/-- the element at a place is none of those up to another -/
def nqTo (xs : List ByteArray) (i k : Nat) : Prop := ∀ (j : Nat) (h : j < xs.length) (hi : i < xs.length), j < k → xs[j] ≠ xs[i]
theorem nqTo_zero (xs : List ByteArray) (i : Nat) : nqTo xs i 0 := fun j _ _ h => absurd h (Nat.not_lt_zero _)
theorem nqTo_succ {xs : List ByteArray} {i k : Nat} (h : nqTo xs i k) (hk : k < xs.length) (hi : i < xs.length) (hx : (xs[k].toList == xs[i].toList) = false) : nqTo xs i (k + 1) := by
  intro j hj hi' hjk
  rcases Nat.lt_succ_iff_lt_or_eq.1 hjk with hjk | rfl
  · exact h j hj hi' hjk
  · intro e; rw [(ba_eq _ _).2 e] at hx; cases hx
theorem nqTo_end {xs : List ByteArray} {i : Nat} (h : nqTo xs i i) (hi : i < xs.length) : xs[i] ∉ xs.take i := by
  intro hm
  obtain ⟨j, hj, e⟩ := List.getElem_of_mem hm
  have hj' : j < i := by simp at hj; omega
  rw [List.getElem_take] at e
  exact h j (by omega) hi hj' e
theorem mem_take {xs : List ByteArray} {i k : Nat} (hi : i < xs.length) (hk : k < i) (hx : (xs[k].toList == xs[i].toList) = true) : xs[i] ∈ xs.take i := by
  rw [← (ba_eq _ _).1 hx]; exact List.mem_take_iff_getElem.2 ⟨k, by omega, rfl⟩
end Go.Proofs.Ytmjfkjdfmpileaa.M
