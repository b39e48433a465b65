/- Texts put together: Plain functions: the order of names; the place of a name; nodes put and dropped. Plain functions: GoOn. Plain functions: runs of a web, who is wanted. Plain functions: a run put in its place, as the reference does. Maps keyed by strings, as lists of pairs: look-up, store, delete, range. What slices.Clone makes: flat cells own themselves; contracts of Clone. Lists that a walk makes bit by bit: 'Lie lo w t v': v reads as t in blocks of its own from lo on; append onto such. append of one text, of texts; a range over a map, step by step. Rows whose cells are known as values: append onto such. Marks: what the laws write into what was handed out, and how it is read again; data as trees. A row that is appended to while what it holds reads elsewhere. The engine in memory: a web, roots, and runs behind pointers in a map. Contracts: sort.Strings on a list of the call's own. Contracts: sort.Search over a test that only reads, and the web's own search. Contracts: the engine wants a name. Contracts: the engine begins. Contracts: the engine's names. Contracts: the engine's state, handed out. Contracts: the reference puts a run in its place. Contracts: the reference's names. Contracts: the reference's steps and actions. Contracts: the reference's CheckWeb. Small facts of rows and lists. A region that draws its order and whose last store may hit a cell that it loads: loads are taken first as long as that store has not come up. Contracts: the reference's known runs: find. -/
import Derived.Test.YtkpkfihaihoaeaaGreatDoorVsM1
import Derived.Sort.Walk0
import Derived.Maps.RangeWalk
import Derived.Test.YtkpkfihaihoaeaaGreatDoorProg
import Derived.Test.YtkpkfihaihoaeaaGreatDoorShelf
import Derived.Sort.OwnSorted
import Derived.Shelf.Abstract
import Derived.OrdersHeld
import Derived.Deep.RegionHeld3
section
set_option linter.unusedVariables false
set_option linter.unusedSimpArgs false
namespace Go.Proofs.YtkpkfihaihoaeaaGreatDoor.M
open Go.RowKit
theorem ltS_eq (a b : ByteArray) : ltS a b = decide (a.toList < b.toList) := bytesLess_eq _ _
theorem ltS_iff (a b : ByteArray) : ltS a b = true ↔ a.toList < b.toList := by rw [ltS_eq]; simp
theorem ltS_not (a b : ByteArray) : ltS a b = false ↔ b.toList ≤ a.toList := by rw [ltS_eq, decide_eq_false_iff_not]; exact List.not_lt
theorem toList_inj {a b : ByteArray} (h : a.toList = b.toList) : a = b := (ba_eq a b).1 (by rw [h]; simp)
theorem ltS_irr (a : ByteArray) : ltS a a = false := (ltS_not a a).2 (List.le_refl _)
theorem ltS_trans {a b c : ByteArray} (h : ltS a b = true) (k : ltS b c = true) : ltS a c = true := (ltS_iff _ _).2 (List.lt_trans ((ltS_iff _ _).1 h) ((ltS_iff _ _).1 k))
theorem ltS_asymm {a b : ByteArray} (h : ltS a b = true) : ltS b a = false := (ltS_not _ _).2 (List.le_of_lt ((ltS_iff _ _).1 h))
theorem ltS_tri {a b : ByteArray} (h : ltS a b = false) (k : ltS b a = false) : a = b := toList_inj (List.le_antisymm ((ltS_not _ _).1 k) ((ltS_not _ _).1 h))
theorem ltS_ne {a b : ByteArray} (h : ltS a b = true) : a ≠ b := by rintro rfl; rw [ltS_irr] at h; cases h
theorem ltS_lt_le {a b c : ByteArray} (h : ltS a b = true) (k : ltS c b = false) : ltS a c = true := (ltS_iff _ _).2 (Std.lt_of_lt_of_le ((ltS_iff _ _).1 h) ((ltS_not _ _).1 k))
theorem ltS_le_lt {a b c : ByteArray} (h : ltS b a = false) (k : ltS b c = true) : ltS a c = true := (ltS_iff _ _).2 (Std.lt_of_le_of_lt ((ltS_not _ _).1 h) ((ltS_iff _ _).1 k))
/-- ascending names -/
def Asc (xs : List ByteArray) : Prop := xs.Pairwise fun a b => ltS a b = true
theorem ascB_asc : ∀ {xs : List Node}, ascB xs = true → Asc (xs.map Node.Name)
 | [], _ => List.Pairwise.nil
 | [a], _ => by simp [Asc]
 | a :: b :: r, h => by
  rw [ascB, Bool.and_eq_true] at h
  have ih := ascB_asc h.2
  unfold Asc at *
  rw [List.map_cons, List.pairwise_cons]
  refine ⟨fun x hx => ?_, ih⟩
  rw [List.map_cons, List.mem_cons] at hx
  rcases hx with rfl | hx
  ·exact h.1
  ·exact ltS_trans h.1 (List.rel_of_pairwise_cons ih hx)
theorem asc_ascB : ∀ {xs : List Node}, Asc (xs.map Node.Name) → ascB xs = true
 | [], _ => rfl
 | [a], _ => rfl
 | a :: b :: r, h => by
  unfold Asc at h
  rw [List.map_cons, List.pairwise_cons] at h
  rw [ascB, Bool.and_eq_true]
  exact ⟨h.1 _ (by simp), asc_ascB h.2⟩
/-- the place of a name: how many names are less -/
def lbN (xs : List Node) (name : ByteArray) : Nat := (xs.takeWhile fun n => ltS n.Name name).length
def hasN (xs : List Node) (name : ByteArray) : Bool := xs.any fun n => n.Name.toList == name.toList
theorem hasN_iff (xs : List Node) (name : ByteArray) : hasN xs name = true ↔ ∃ n ∈ xs, n.Name = name := by
 unfold hasN; rw [List.any_eq_true]
 exact ⟨fun ⟨n, h, k⟩ => ⟨n, h, (ba_eq _ _).1 k⟩, fun ⟨n, h, k⟩ => ⟨n, h, (ba_eq _ _).2 k⟩⟩
/-- what a search finds: all below are less, none from there on is -/
def FindAt (xs : List Node) (name : ByteArray) (k : Nat) : Prop := k ≤ xs.length ∧ (∀ (i : Nat) (h : i < xs.length), i < k → ltS xs[i].Name name = true) ∧ (∀ (i : Nat) (h : i < xs.length), k ≤ i → ltS xs[i].Name name = false)
theorem FindAt.lb : ∀ {xs : List Node} {name : ByteArray} {k : Nat}, FindAt xs name k → lbN xs name = k
 | [], name, k, h => by have := h.1; simp at this; subst this; rfl
 | x :: xs, name, 0, h => by
  have := h.2.2 0 (by simp) (by omega)
  simp at this
  unfold lbN; rw [List.takeWhile_cons, if_neg (by simp [this])]; rfl
 | x :: xs, name, k + 1, h => by
  have h0 := h.2.1 0 (by simp) (by omega)
  simp at h0
  have ih : lbN xs name = k := FindAt.lb ⟨by have := h.1; simp at this; omega, fun i hi hk => h.2.1 (i + 1) (by simp; omega) (by omega), fun i hi hk => h.2.2 (i + 1) (by simp; omega) (by omega)⟩
  unfold lbN at *; rw [List.takeWhile_cons, if_pos h0, List.length_cons, ih]
theorem asc_mono {xs : List Node} (h : Asc (xs.map Node.Name)) {i j : Nat} (hij : i < j) (hj : j < xs.length) : ltS xs[i].Name xs[j].Name = true := by
 have := List.pairwise_iff_getElem.1 h i j (by simp; omega) (by simpa using hj) hij
 simpa using this
/-- the test of the search is monotone -/
theorem asc_ge {xs : List Node} (h : Asc (xs.map Node.Name)) (name : ByteArray) {i j : Nat} (hij : i ≤ j) (hj : j < xs.length) (hi : ltS xs[i].Name name = false) : ltS xs[j].Name name = false := by
 rcases Nat.lt_or_eq_of_le hij with hlt | rfl
 ·cases hq : ltS xs[j].Name name with
  | false => rfl
  | true => rw [ltS_trans (asc_mono h hlt hj) hq] at hi; cases hi
 ·exact hi
theorem FindAt.there {xs : List Node} {name : ByteArray} {k : Nat} (h : FindAt xs name k) (ha : Asc (xs.map Node.Name)) : hasN xs name = true ↔ ∃ hk : k < xs.length, xs[k].Name = name := by
 rw [hasN_iff]
 constructor
 ·rintro ⟨n, hn, rfl⟩
  obtain ⟨i, hi, rfl⟩ := List.getElem_of_mem hn
  have h1 : k ≤ i := by
   rcases Nat.lt_or_ge i k with hlt | hge
   ·have := h.2.1 i hi hlt; rw [ltS_irr] at this; cases this
   ·exact hge
  rcases Nat.lt_or_eq_of_le h1 with hlt | rfl
  ·have h2 := asc_mono ha hlt hi
   rw [h.2.2 k (by omega) (Nat.le_refl _)] at h2; cases h2
  ·exact ⟨hi, rfl⟩
 ·rintro ⟨hk, e⟩; exact ⟨_, List.getElem_mem hk, e⟩
/-! ### dropping -/
def neN (name : ByteArray) (n : Node) : Bool := !(n.Name.toList == name.toList)
def dropNodes (xs : List Node) (name : ByteArray) : List Node := xs.filter (neN name)
theorem neN_iff (name : ByteArray) (n : Node) : neN name n = true ↔ n.Name ≠ name := by
 unfold neN; rw [Bool.not_eq_true', Bool.eq_false_iff, Ne, ba_eq]
def filTo {α : Type} (p : α → Bool) (xs : List α) (k : Nat) : List α := (xs.take k).filter p
theorem filTo_zero {α : Type} (p : α → Bool) (xs : List α) : filTo p xs 0 = [] := by simp [filTo]
theorem filTo_yes {α : Type} {p : α → Bool} {xs : List α} {k : Nat} (h : k < xs.length) (hp : p xs[k] = true) : filTo p xs (k + 1) = filTo p xs k ++ [xs[k]] := by
 unfold filTo; rw [List.take_succ_eq_append_getElem h, List.filter_append]; simp [hp]
theorem filTo_no {α : Type} {p : α → Bool} {xs : List α} {k : Nat} (h : k < xs.length) (hp : p xs[k] = false) : filTo p xs (k + 1) = filTo p xs k := by
 unfold filTo; rw [List.take_succ_eq_append_getElem h, List.filter_append]; simp [hp]
theorem filTo_end {α : Type} (p : α → Bool) (xs : List α) : filTo p xs xs.length = xs.filter p := by simp [filTo]
theorem filTo_len {α : Type} (p : α → Bool) (xs : List α) (k : Nat) : (filTo p xs k).length ≤ k := by
 unfold filTo; exact Nat.le_trans (List.length_filter_le _ _) (by rw [List.length_take]; omega)
theorem drop_at {xs : List Node} {name : ByteArray} {a i : Nat} (h : FindAt xs name a) (ha : Asc (xs.map Node.Name)) (ht : hasN xs name = true) (hi : i < xs.length) : neN name xs[i] = !decide (i = a) := by
 obtain ⟨hk, e⟩ := (h.there ha).1 ht
 rw [Bool.eq_iff_iff, neN_iff]
 constructor
 ·intro hn
  by_cases e2 : i = a
  ·subst e2; exact absurd e hn
  ·simp [e2]
 ·intro hn he
  have hne : i ≠ a := by simpa using hn
  rcases Nat.lt_or_gt_of_ne hne with hlt | hlt
  ·have h2 := asc_mono ha hlt hk
   rw [he, e, ltS_irr] at h2; cases h2
  ·have h2 := asc_mono ha hlt hi
   rw [he, e, ltS_irr] at h2; cases h2
def dropWeb (w : Web) (name : ByteArray) : Web × Int :=
 if checkWeb w ≠ 0 then (⟨[]⟩, 1) else if nameOk name = false then (⟨[]⟩, 2) else if hasN w.Nodes name = false then (⟨[]⟩, 4) else (⟨dropNodes w.Nodes name⟩, 0)
theorem checkWeb_ok {w : Web} (h : checkWeb w = 0) : w.Nodes.length ≤ 60 ∧ w.Nodes.all nodeNameOk = true ∧ ascB w.Nodes = true ∧ w.Nodes.all nodeActOk = true := by
 unfold checkWeb at h
 split at h; · cases h
 split at h; · cases h
 split at h; · cases h
 split at h; · cases h
 rename_i h1 h2 h3 h4
 exact ⟨by omega, by simpa using h2, by simpa using h3, by simpa using h4⟩
/-! ### the place of a name, -1 if there is none -/
def nmB (name : ByteArray) (n : Node) : Bool := n.Name.toList == name.toList
def atN (xs : List Node) (name : ByteArray) : Int := match xs.findIdx? (nmB name) with
 | some i => i
 | none => -1
def noTo (xs : List Node) (name : ByteArray) (k : Nat) : Prop := ∀ (i : Nat) (h : i < xs.length), i < k → nmB name xs[i] = false
theorem noTo_zero (xs : List Node) (name : ByteArray) : noTo xs name 0 := fun _ _ h => absurd h (Nat.not_lt_zero _)
theorem noTo_succ {xs : List Node} {name : ByteArray} {k : Nat} (h : noTo xs name k) (hk : k < xs.length) (hx : nmB name xs[k] = false) : noTo xs name (k + 1) := by
 intro i hi hik
 rcases Nat.lt_succ_iff_lt_or_eq.1 hik with hik | rfl
 ·exact h i hi hik
 ·exact hx
theorem atN_yes {xs : List Node} {name : ByteArray} {k : Nat} (h : noTo xs name k) (hk : k < xs.length) (hx : nmB name xs[k] = true) : atN xs name = k := by
 have : xs.findIdx? (nmB name) = some k := by
  rw [List.findIdx?_eq_some_iff_getElem]
  exact ⟨hk, hx, fun j hj => by rw [h j (by omega) hj]; simp⟩
 unfold atN; rw [this]
theorem atN_no {xs : List Node} {name : ByteArray} (h : noTo xs name xs.length) : atN xs name = -1 := by
 have : xs.findIdx? (nmB name) = none := by
  rw [List.findIdx?_eq_none_iff]
  intro x hx
  obtain ⟨i, hi, rfl⟩ := List.getElem_of_mem hx
  exact h i hi hi
 unfold atN; rw [this]
theorem atN_neg (xs : List Node) (name : ByteArray) : atN xs name < 0 ↔ hasN xs name = false := by
 unfold atN
 cases hf : xs.findIdx? (nmB name) with
 | none =>
  rw [List.findIdx?_eq_none_iff] at hf
  refine ⟨fun _ => ?_, fun _ => by decide⟩
  unfold hasN; rw [List.any_eq_false]
  intro x hx; have := hf x hx; unfold nmB at this; simp [this]
 | some i =>
  rw [List.findIdx?_eq_some_iff_getElem] at hf
  obtain ⟨hi, hx, _⟩ := hf
  refine ⟨fun h => by simp at h; omega, fun h => ?_⟩
  unfold hasN at h; rw [List.any_eq_false] at h
  exact absurd hx (h _ (List.getElem_mem hi))
end Go.Proofs.YtkpkfihaihoaeaaGreatDoor.M
end
section
set_option linter.unusedVariables false
set_option linter.unusedSimpArgs false
namespace Go.Proofs.YtkpkfihaihoaeaaGreatDoor.M
open Go.RowKit
def belowT (q : ByteArray) : ByteArray := ⟨#[98, 101, 108, 111, 119, 32]⟩ ++ q
def failed (x : Answer) : Bool := x.Fail
def failIx (xs : List Answer) : Option Nat := xs.findIdx? failed
def caseIs (t : ByteArray) (c : Case) : Bool := c.Text.toList == t.toList
def caseOf (cs : List Case) (t : ByteArray) : Option Case := cs.find? (caseIs t)
def onText (s : Step) (xs : List Answer) : ByteArray := (xs.getD s.On.toNat zAnswer).Text
def gotoS (s : Step) (xs : List Answer) : Int := if xs = [] then s.Else else match caseOf s.Cases (onText s xs) with | some c => c.Goto | none => s.Else
def followS (s : Step) (xs : List Answer) : Gone :=
 match failIx xs with
 | some i => if s.Fall < 0 then ⟨0, true, 0, belowT (s.Asks.getD i ⟨#[]⟩)⟩ else ⟨0, false, s.Fall, ⟨#[]⟩⟩
 | none => ⟨0, false, gotoS s xs, ⟨#[]⟩⟩
def badGone : Gone := ⟨1, false, 0, ⟨#[]⟩⟩
def textOk (x : Answer) : Bool := decide (x.Text.size ≤ 200)
def goOnPre (a : Action) (at_ : Int) (xs : List Answer) : Bool := actionOk a && inB at_ 0 (a.Steps.length - 1) && !(a.Steps.getD at_.toNat zStep).End && decide (xs.length = (a.Steps.getD at_.toNat zStep).Asks.length)
def goOn (a : Action) (at_ : Int) (xs : List Answer) : Gone :=
 if goOnPre a at_ xs = false then badGone else if xs.all textOk = false then badGone else followS (a.Steps.getD at_.toNat zStep) xs
/-- none failed before a place -/
def noFail (xs : List Answer) (k : Nat) : Prop := ∀ (i : Nat) (h : i < xs.length), i < k → xs[i].Fail = false
theorem noFail_zero (xs : List Answer) : noFail xs 0 := fun i _ h => absurd h (Nat.not_lt_zero _)
theorem noFail_succ {xs : List Answer} {k : Nat} (h : noFail xs k) (hk : k < xs.length) (hx : xs[k].Fail = false) : noFail xs (k + 1) := by
 intro i hi hik
 rcases Nat.lt_succ_iff_lt_or_eq.1 hik with hik | rfl
 ·exact h i hi hik
 ·exact hx
theorem failIx_at {xs : List Answer} {k : Nat} (h : noFail xs k) (hk : k < xs.length) (hx : xs[k].Fail = true) : failIx xs = some k := by
 unfold failIx
 rw [List.findIdx?_eq_some_iff_getElem]
 exact ⟨hk, hx, fun j hj => by have := h j (by omega) hj; simp [failed, this]⟩
theorem failIx_none {xs : List Answer} (h : noFail xs xs.length) : failIx xs = none := by
 unfold failIx
 rw [List.findIdx?_eq_none_iff]
 intro x hx
 obtain ⟨i, hi, rfl⟩ := List.getElem_of_mem hx
 exact h i hi hi
def noCase (t : ByteArray) (cs : List Case) (k : Nat) : Prop := ∀ (i : Nat) (h : i < cs.length), i < k → caseIs t cs[i] = false
theorem noCase_zero (t : ByteArray) (cs : List Case) : noCase t cs 0 := fun i _ h => absurd h (Nat.not_lt_zero _)
theorem noCase_succ {t : ByteArray} {cs : List Case} {k : Nat} (h : noCase t cs k) (hk : k < cs.length) (hx : caseIs t cs[k] = false) : noCase t cs (k + 1) := by
 intro i hi hik
 rcases Nat.lt_succ_iff_lt_or_eq.1 hik with hik | rfl
 ·exact h i hi hik
 ·exact hx
theorem caseOf_at {t : ByteArray} {cs : List Case} {k : Nat} (h : noCase t cs k) (hk : k < cs.length) (hx : caseIs t cs[k] = true) : caseOf cs t = some cs[k] := by
 unfold caseOf
 rw [List.find?_eq_some_iff_getElem]
 exact ⟨hx, k, hk, rfl, fun j hj => by have := h j (by omega) hj; simp [this]⟩
theorem caseOf_none {t : ByteArray} {cs : List Case} (h : noCase t cs cs.length) : caseOf cs t = none := by
 unfold caseOf
 rw [List.find?_eq_none]
 intro x hx
 obtain ⟨i, hi, rfl⟩ := List.getElem_of_mem hx
 simp [h i hi hi]
theorem follow_fall {s : Step} {xs : List Answer} {k : Nat} (h : noFail xs k) (hk : k < xs.length) (hx : xs[k].Fail = true) (hF : ¬s.Fall < 0) : followS s xs = ⟨0, false, s.Fall, ⟨#[]⟩⟩ := by
 unfold followS; rw [failIx_at h hk hx]; simp [hF]
theorem follow_over {s : Step} {xs : List Answer} {k : Nat} (h : noFail xs k) (hk : k < xs.length) (hx : xs[k].Fail = true) (hF : s.Fall < 0) (hl : k < s.Asks.length) : followS s xs = ⟨0, true, 0, belowT s.Asks[k]⟩ := by
 unfold followS; rw [failIx_at h hk hx]; simp [hF, List.getD_eq_getElem?_getD, hl]
theorem follow_else0 {s : Step} {xs : List Answer} (h : noFail xs xs.length) (hx : xs.length = 0) : followS s xs = ⟨0, false, s.Else, ⟨#[]⟩⟩ := by
 unfold followS; rw [failIx_none h]; simp [gotoS, List.eq_nil_of_length_eq_zero hx]
theorem follow_else {s : Step} {xs : List Answer} (h : noFail xs xs.length) (hc : noCase (onText s xs) s.Cases s.Cases.length) : followS s xs = ⟨0, false, s.Else, ⟨#[]⟩⟩ := by
 unfold followS; rw [failIx_none h]; unfold gotoS; rw [caseOf_none hc]; simp
theorem follow_goto {s : Step} {xs : List Answer} {k : Nat} (h : noFail xs xs.length) (hx : 0 < xs.length) (hc : noCase (onText s xs) s.Cases k) (hk : k < s.Cases.length) (hq : caseIs (onText s xs) s.Cases[k] = true) : followS s xs = ⟨0, false, s.Cases[k].Goto, ⟨#[]⟩⟩ := by
 have hne : xs ≠ [] := List.length_pos_iff.1 hx
 unfold followS; rw [failIx_none h]; unfold gotoS; rw [caseOf_at hc hk hq]; simp [hne]
theorem goOn_bad {a : Action} {at_ : Int} {xs : List Answer} (h : actionOk a = false) : goOn a at_ xs = badGone := by simp [goOn, goOnPre, h]
theorem goOn_out {a : Action} {at_ : Int} {xs : List Answer} (h : inB at_ 0 (a.Steps.length - 1) = false) : goOn a at_ xs = badGone := by simp [goOn, goOnPre, h]
theorem goOn_end {a : Action} {n : Nat} {xs : List Answer} (hn : n < a.Steps.length) (h : a.Steps[n].End = true) : goOn a n xs = badGone := by
 simp [goOn, goOnPre, List.getD_eq_getElem?_getD, hn, h]
theorem goOn_len {a : Action} {n : Nat} {xs : List Answer} (hn : n < a.Steps.length) (h : ¬xs.length = a.Steps[n].Asks.length) : goOn a n xs = badGone := by
 simp [goOn, goOnPre, List.getD_eq_getElem?_getD, hn, h]
theorem goOn_text {a : Action} {n : Nat} {xs : List Answer} (h : xs.all textOk = false) : goOn a n xs = badGone := by
 unfold goOn; rw [h]; simp
theorem goOn_yes {a : Action} {n : Nat} {xs : List Answer} (hn : n < a.Steps.length) (h1 : actionOk a = true) (h2 : inB n 0 (a.Steps.length - 1) = true) (h3 : a.Steps[n].End = false) (h4 : xs.length = a.Steps[n].Asks.length) (h5 : xs.all textOk = true) : goOn a n xs = followS a.Steps[n] xs := by
 unfold goOn; rw [h5]; simp [goOnPre, List.getD_eq_getElem?_getD, hn, h1, h2, h3, h4]
theorem nameOk_size {q : ByteArray} (h : nameOk q = true) : q.size ≤ 20 := by
 simp [nameOk, inB] at h; omega
/-- what a good action's step holds -/
theorem step_facts {a : Action} (h : actionOk a = true) {n : Nat} (hn : n < a.Steps.length) (hE : a.Steps[n].End = false) :
  preOk a.Steps[n] a.Steps.length = true ∧ namesOk a.Steps[n].Asks = true ∧ onOk a.Steps[n] = true := by
 simp only [actionOk, Bool.and_eq_true, List.all_eq_true] at h
 have h := h.2 _ (List.getElem_mem hn)
 simp only [stepOkN, stepOk, hE] at h
 simp only [Bool.false_eq_true, if_false, Bool.and_eq_true] at h
 exact ⟨h.1.1.1, h.1.1.2, h.1.2⟩
theorem step_asks {a : Action} (h : actionOk a = true) {n : Nat} (hn : n < a.Steps.length) (hE : a.Steps[n].End = false) : ∀ q ∈ a.Steps[n].Asks, q.size ≤ 1000000 := by
 intro q hq
 have h2 := (step_facts h hn hE).2.1
 simp only [namesOk, Bool.and_eq_true, List.all_eq_true] at h2
 have := nameOk_size (h2.1 q hq)
 omega
theorem step_on {a : Action} (h : actionOk a = true) {n : Nat} (hn : n < a.Steps.length) (hE : a.Steps[n].End = false) {l : Nat} (hl : l = a.Steps[n].Asks.length) : 0 < l → 0 ≤ a.Steps[n].On ∧ a.Steps[n].On < l := by
 intro h0
 have h3 := (step_facts h hn hE).2.2
 have hne : a.Steps[n].Asks.isEmpty = false := by
  cases hq : a.Steps[n].Asks with
  | nil => rw [hq] at hl; simp at hl; omega
  | cons _ _ => rfl
 simp [onOk, hne, inB] at h3
 omega
theorem step_fall {a : Action} (h : actionOk a = true) {n : Nat} (hn : n < a.Steps.length) (hE : a.Steps[n].End = false) : -1 ≤ a.Steps[n].Fall := by
 have h1 := (preOk_iff (step_facts h hn hE).1).2.2.2.2.2
 simp [inB] at h1
 omega
theorem textOk_no {xs : List Answer} {k : Nat} (hk : k < xs.length) (h : ¬xs[k].Text.size ≤ 200) : xs.all textOk = false := allTo_not hk (by simp [textOk]; omega)
def goneV (g : Gone) : Value := .agg #[.int .i64 g.Code, .bool g.Over, .int .i64 g.At, .string g.Text]
end Go.Proofs.YtkpkfihaihoaeaaGreatDoor.M
end
section
set_option linter.unusedVariables false
set_option linter.unusedSimpArgs false
namespace Go.Proofs.YtkpkfihaihoaeaaGreatDoor.M
open Go.RowKit
def nodeOf (xs : List Node) (q : ByteArray) : Node := (xs.find? (nmB q)).getD zNode
def actOf (W : Web) (q : ByteArray) : Action := (nodeOf W.Nodes q).Action
def stepIn (a : Action) (at_ : Int) : Step := a.Steps.getD at_.toNat zStep
def stepOf (W : Web) (r : Run) : Step := stepIn (actOf W r.Name) r.At
def rIs (q : ByteArray) (r : Run) : Bool := r.Name.toList == q.toList
def runOf (R : List Run) (q : ByteArray) : Option Run := R.find? (rIs q)
def noT (q : ByteArray) : ByteArray := ⟨#[110, 111, 32]⟩ ++ q
def runAns (o : Option Run) : Option Answer := match o with
 | none => none
 | some r => if r.Over then some ⟨r.Fail, r.Text⟩ else none
def answerOf (W : Web) (R : List Run) (q : ByteArray) : Option Answer := if hasN W.Nodes q then runAns (runOf R q) else some ⟨true, noT q⟩
def answersOf (W : Web) (R : List Run) : List ByteArray → Option (List Answer)
 | [] => some []
 | q :: qs => match answerOf W R q with
  | none => none
  | some x => match answersOf W R qs with
   | none => none
   | some xs => some (x :: xs)
def isReady (W : Web) (R : List Run) (r : Run) : Bool := !r.Over && (r.Visits == 0 || (answersOf W R (stepOf W r).Asks).isSome)
def readyR (W : Web) (R : List Run) : List Run := R.filter (isReady W R)
def readyL (W : Web) (R : List Run) : List ByteArray := (readyR W R).map Run.Name
def newRun (q : ByteArray) : Run := ⟨q, false, false, ⟨#[]⟩, 0, 0, []⟩
def insR (r : Run) : List Run → List Run
 | [] => [r]
 | x :: xs => if ltS r.Name x.Name then r :: x :: xs else x :: insR r xs
def want (W : Web) (R : List Run) (q : ByteArray) : List Run := if hasN W.Nodes q && (runOf R q).isNone then insR (newRun q) R else R
def wants (W : Web) (R : List Run) (qs : List ByteArray) : List Run := qs.foldl (want W) R
def rootsOk (l : List ByteArray) : Bool := inB l.length 1 10 && namesOk l
def begin_ (W : Web) (roots : List ByteArray) : List Run := wants W [] roots

theorem nmB_iff (q : ByteArray) (n : Node) : nmB q n = true ↔ n.Name = q := by
 unfold nmB; rw [ba_eq]
theorem rIs_iff (q : ByteArray) (r : Run) : rIs q r = true ↔ r.Name = q := by
 unfold rIs; rw [ba_eq]
theorem rIs_self (r : Run) : rIs r.Name r = true := (rIs_iff _ _).2 rfl
theorem rIs_ne {q : ByteArray} {r : Run} (h : r.Name ≠ q) : rIs q r = false := by
 rw [Bool.eq_false_iff]; exact fun k => h ((rIs_iff _ _).1 k)
theorem runOf_some {R : List Run} {q : ByteArray} {r : Run} (h : runOf R q = some r) : r ∈ R ∧ r.Name = q := by
 unfold runOf at h
 exact ⟨List.mem_of_find?_eq_some h, (rIs_iff _ _).1 (List.find?_some h)⟩
theorem runOf_none {R : List Run} {q : ByteArray} : runOf R q = none ↔ ∀ r ∈ R, r.Name ≠ q := by
 unfold runOf
 rw [List.find?_eq_none]
 exact ⟨fun h r hr e => h r hr ((rIs_iff _ _).2 e), fun h r hr e => h r hr ((rIs_iff _ _).1 e)⟩
theorem runOf_cons (x : Run) (R : List Run) (q : ByteArray) : runOf (x :: R) q = if x.Name = q then some x else runOf R q := by
 unfold runOf
 rw [List.find?_cons]
 by_cases h : x.Name = q
 ·rw [(rIs_iff _ _).2 h, if_pos h]
 ·rw [rIs_ne h, if_neg h]
def AscR (R : List Run) : Prop := Asc (R.map Run.Name)
theorem AscR.nil : AscR [] := List.Pairwise.nil
theorem AscR_cons {x : Run} {R : List Run} : AscR (x :: R) ↔ (∀ y ∈ R, ltS x.Name y.Name = true) ∧ AscR R := by
 unfold AscR Asc
 rw [List.map_cons, List.pairwise_cons]
 simp
theorem runOf_mem : ∀ {R : List Run} {r : Run}, AscR R → r ∈ R → runOf R r.Name = some r
 | x :: R, r, h, hr => by
  obtain ⟨h1, h2⟩ := AscR_cons.1 h
  rw [runOf_cons]
  rcases List.mem_cons.1 hr with rfl | hr
  ·rw [if_pos rfl]
  ·rw [if_neg (ltS_ne (h1 r hr)), runOf_mem h2 hr]
theorem runOf_lt {R : List Run} {x : ByteArray} (h : ∀ y ∈ R, ltS x y.Name = true) {q : ByteArray} (hq : ltS x q = false) : runOf R q = none := by
 rw [runOf_none]
 rintro r hr rfl
 rw [h r hr] at hq; cases hq
/-- lists of runs in order that tell the same of each name are the same -/
theorem runs_ext : ∀ {R S : List Run}, AscR R → AscR S → (∀ q, runOf R q = runOf S q) → R = S
 | [], [], _, _, _ => rfl
 | [], y :: S, _, _, h => by
  have := h y.Name
  rw [runOf_cons, if_pos rfl] at this
  simp [runOf] at this
 | x :: R, [], _, _, h => by
  have := h x.Name
  rw [runOf_cons, if_pos rfl] at this
  simp [runOf] at this
 | x :: R, y :: S, hR, hS, h => by
  obtain ⟨h1, h2⟩ := AscR_cons.1 hR
  obtain ⟨k1, k2⟩ := AscR_cons.1 hS
  have hxy : x.Name = y.Name := by
   by_cases e : x.Name = y.Name
   ·exact e
   ·exfalso
    have a := h x.Name
    have b := h y.Name
    rw [runOf_cons, if_pos rfl, runOf_cons, if_neg (Ne.symm e)] at a
    rw [runOf_cons, if_neg e, runOf_cons, if_pos rfl] at b
    have a := k1 x (runOf_some a.symm).1
    have b := h1 y (runOf_some b).1
    rw [ltS_asymm a] at b; cases b
  have hx : x = y := by
   have a := h x.Name
   rw [runOf_cons, if_pos rfl, runOf_cons, if_pos hxy.symm] at a
   exact Option.some.inj a
  subst hx
  rw [runs_ext h2 k2 (fun q => ?_)]
  by_cases e : x.Name = q
  ·subst e
   rw [runOf_lt h1 (ltS_irr _), runOf_lt k1 (ltS_irr _)]
  ·have := h q
   rwa [runOf_cons, if_neg e, runOf_cons, if_neg e] at this
theorem mem_insR {r x : Run} : ∀ {R : List Run}, x ∈ insR r R ↔ x = r ∨ x ∈ R
 | [] => by simp [insR]
 | y :: R => by
  unfold insR
  split
  ·simp
  ·rw [List.mem_cons, mem_insR, List.mem_cons]
   constructor
   ·rintro (h | h | h) <;> simp [h]
   ·rintro (h | h | h) <;> simp [h]
theorem insR_asc {r : Run} : ∀ {R : List Run}, AscR R → (∀ x ∈ R, x.Name ≠ r.Name) → AscR (insR r R)
 | [], _, _ => by unfold insR; exact AscR_cons.2 ⟨fun y hy => (by cases hy), AscR.nil⟩
 | y :: R, h, hn => by
  obtain ⟨h1, h2⟩ := AscR_cons.1 h
  unfold insR
  split
  ·rename_i hlt
   refine AscR_cons.2 ⟨fun z hz => ?_, h⟩
   rcases List.mem_cons.1 hz with rfl | hz
   ·exact hlt
   ·exact ltS_trans hlt (h1 z hz)
  ·rename_i hlt
   refine AscR_cons.2 ⟨fun z hz => ?_, insR_asc h2 (fun x hx => hn x (List.mem_cons_of_mem _ hx))⟩
   rcases mem_insR.1 hz with rfl | hz
   ·cases hh : ltS y.Name z.Name with
    | true => rfl
    | false => exact absurd (ltS_tri hh (by simpa using hlt)) (hn y (List.mem_cons_self ..))
   ·exact h1 z hz
theorem runOf_insR {r : Run} {q : ByteArray} : ∀ {R : List Run}, (∀ x ∈ R, x.Name ≠ r.Name) → runOf (insR r R) q = if r.Name = q then some r else runOf R q
 | [], _ => by unfold insR; rw [runOf_cons]
 | y :: R, hn => by
  unfold insR
  split
  ·rw [runOf_cons]
  ·rw [runOf_cons, runOf_insR (fun x hx => hn x (List.mem_cons_of_mem _ hx)), runOf_cons]
   by_cases e : y.Name = q
   ·rw [if_pos e, if_pos e, if_neg (fun e2 => hn y (List.mem_cons_self ..) (e.trans e2.symm))]
   ·rw [if_neg e, if_neg e]
theorem insR_length (r : Run) : ∀ (R : List Run), (insR r R).length = R.length + 1
 | [] => rfl
 | y :: R => by
  unfold insR
  split
  ·simp
  ·rw [List.length_cons, insR_length, List.length_cons]
/-- who is wanted -/
theorem want_has {W : Web} {R : List Run} {q : ByteArray} {r : Run} (h : runOf R q = some r) : want W R q = R := by
 unfold want; rw [h]; simp
theorem want_out {W : Web} {R : List Run} {q : ByteArray} (h : hasN W.Nodes q = false) : want W R q = R := by
 unfold want; rw [h]; simp
theorem want_new {W : Web} {R : List Run} {q : ByteArray} (h : hasN W.Nodes q = true) (h2 : runOf R q = none) : want W R q = insR (newRun q) R := by
 unfold want; rw [h, h2]; simp
theorem runOf_want (W : Web) (R : List Run) (q p : ByteArray) : runOf (want W R q) p = match runOf R p with
  | some r => some r
  | none => if p = q ∧ hasN W.Nodes q = true then some (newRun q) else none := by
 by_cases h : hasN W.Nodes q = true
 ·cases h2 : runOf R q with
  | some r =>
   rw [want_has h2]
   cases h3 : runOf R p with
   | some x => rfl
   | none =>
    simp only
    rw [if_neg]
    rintro ⟨rfl, _⟩
    rw [h2] at h3; cases h3
  | none =>
   rw [want_new h h2, runOf_insR (fun x hx => runOf_none.1 h2 x hx)]
   by_cases e : q = p
   ·subst e; rw [if_pos (show (newRun q).Name = q from rfl), h2]; simp [h]
   ·rw [if_neg (show ¬(newRun q).Name = p from e)]
    cases h3 : runOf R p with
    | some x => rfl
    | none => simp only; rw [if_neg (fun k => e k.1.symm)]
 ·have h := Bool.eq_false_iff.2 h
  rw [want_out h]
  cases h3 : runOf R p with
  | some x => rfl
  | none => simp only; rw [if_neg (fun k => by rw [h] at k; exact absurd k.2 (by simp))]
theorem want_asc {W : Web} {R : List Run} {q : ByteArray} (h : AscR R) : AscR (want W R q) := by
 unfold want
 split
 ·rename_i h2
  simp only [Bool.and_eq_true, Option.isNone_iff_eq_none] at h2
  exact insR_asc h (fun x hx => runOf_none.1 h2.2 x hx)
 ·exact h
theorem mem_want {W : Web} {R : List Run} {q : ByteArray} {x : Run} (h : x ∈ want W R q) : x ∈ R ∨ (x = newRun q ∧ hasN W.Nodes q = true) := by
 unfold want at h
 split at h
 ·rename_i h2
  simp only [Bool.and_eq_true, Option.isNone_iff_eq_none] at h2
  rcases mem_insR.1 h with h | h
  ·exact .inr ⟨h, h2.1⟩
  ·exact .inl h
 ·exact .inl h
theorem runOf_wants (W : Web) (p : ByteArray) : ∀ (qs : List ByteArray) (R : List Run), runOf (wants W R qs) p = match runOf R p with
  | some r => some r
  | none => if p ∈ qs ∧ hasN W.Nodes p = true then some (newRun p) else none
 | [], R => by
  simp only [wants, List.foldl_nil]
  cases runOf R p <;> simp
 | q :: qs, R => by
  have ih := runOf_wants W p qs (want W R q)
  simp only [wants, List.foldl_cons] at ih ⊢
  rw [ih, runOf_want]
  cases h : runOf R p with
  | some r => rfl
  | none =>
   simp only
   by_cases e : p = q
   ·subst e
    by_cases hh : hasN W.Nodes p = true
    ·simp [hh]
    ·simp [hh]
   ·simp [e]
theorem wants_asc {W : Web} : ∀ (qs : List ByteArray) {R : List Run}, AscR R → AscR (wants W R qs)
 | [], _, h => h
 | q :: qs, R, h => wants_asc qs (R := want W R q) (want_asc h)
theorem mem_wants {W : Web} {x : Run} : ∀ (qs : List ByteArray) {R : List Run}, x ∈ wants W R qs → x ∈ R ∨ ∃ q ∈ qs, x = newRun q ∧ hasN W.Nodes q = true
 | [], R, h => .inl h
 | q :: qs, R, h => by
  rcases mem_wants qs (R := want W R q) h with h | ⟨p, hp, h1, h2⟩
  ·rcases mem_want h with h | ⟨h1, h2⟩
   ·exact .inl h
   ·exact .inr ⟨q, List.mem_cons_self .., h1, h2⟩
  ·exact .inr ⟨p, List.mem_cons_of_mem _ hp, h1, h2⟩
def setR (r : Run) (R : List Run) : List Run := R.map fun x => if rIs r.Name x then r else x
/-- the places of what is set -/
theorem mem_setR {x r : Run} {R : List Run} (h : x ∈ setR r R) : x = r ∨ (x ∈ R ∧ x.Name ≠ r.Name) := by
 unfold setR at h
 obtain ⟨y, hy, rfl⟩ := List.mem_map.1 h
 by_cases e : y.Name = r.Name
 ·rw [(rIs_iff r.Name y).2 e]; exact .inl rfl
 ·rw [rIs_ne e]; exact .inr ⟨hy, e⟩
theorem setR_names (r : Run) (R : List Run) : (setR r R).map Run.Name = R.map Run.Name := by
 unfold setR
 rw [List.map_map]
 apply List.map_congr_left
 intro y hy
 by_cases e : y.Name = r.Name
 ·simp [(rIs_iff r.Name y).2 e, e]
 ·simp [rIs_ne e]
theorem setR_asc {r : Run} {R : List Run} (h : AscR R) : AscR (setR r R) := by unfold AscR; rw [setR_names]; exact h
theorem runOf_setR (r : Run) (q : ByteArray) : ∀ (R : List Run), runOf (setR r R) q = if q = r.Name then (runOf R q).map (fun _ => r) else runOf R q
 | [] => by simp [setR, runOf]
 | x :: R => by
  have ih := runOf_setR r q R
  unfold setR at ih ⊢
  rw [List.map_cons, runOf_cons, ih, runOf_cons]
  by_cases e : x.Name = r.Name
  ·rw [(rIs_iff r.Name x).2 e]
   simp only [if_true]
   by_cases e2 : q = r.Name
   ·rw [if_pos e2.symm, if_pos e2, if_pos (e.trans e2.symm)]; rfl
   ·rw [if_neg (fun k => e2 k.symm), if_neg e2, if_neg e2, if_neg (fun k => e2 (k.symm.trans e))]
  ·rw [rIs_ne e]
   simp only [Bool.false_eq_true, if_false]
   by_cases e2 : q = r.Name
   ·rw [if_pos e2, if_pos e2]
    by_cases e3 : x.Name = q
    ·exact absurd (e3.trans e2) e
    ·rw [if_neg e3, if_neg e3]
   ·rw [if_neg e2, if_neg e2]
theorem AscR.nodup {R : List Run} (h : AscR R) : (R.map Run.Name).Nodup := List.Pairwise.imp (fun h => ltS_ne h) h
end Go.Proofs.YtkpkfihaihoaeaaGreatDoor.M
end
section
set_option linter.unusedVariables false
set_option linter.unusedSimpArgs false
namespace Go.Proofs.YtkpkfihaihoaeaaGreatDoor.M
open Go.RowKit
def putA (r : Run) (st : List Run × Bool) (x : Run) : List Run × Bool := if (!st.2 && !ltS x.Name r.Name) = true then (st.1 ++ [r], true) else st
def putB (r : Run) (st : List Run × Bool) (x : Run) : List Run × Bool := if rIs r.Name x then st else (st.1 ++ [x], st.2)
def putS (r : Run) (st : List Run × Bool) (x : Run) : List Run × Bool := putB r (putA r st x) x
def putK (R : List Run) (r : Run) (k : Nat) : List Run × Bool := (R.take k).foldl (putS r) ([], false)
def putL (R : List Run) (r : Run) : List Run := if (putK R r R.length).2 then (putK R r R.length).1 else (putK R r R.length).1 ++ [r]
theorem putK_zero (R : List Run) (r : Run) : putK R r 0 = ([], false) := rfl
theorem putK_succ {R : List Run} {r : Run} {k : Nat} (h : k < R.length) : putK R r (k + 1) = putS r (putK R r k) R[k] := by
 unfold putK; rw [List.take_succ_eq_append_getElem h, List.foldl_append]; rfl
theorem putS_len (r : Run) (st : List Run × Bool) (x : Run) : (putS r st x).1.length ≤ st.1.length + 2 := by
 unfold putS putB putA
 split <;> split <;> simp
theorem putK_len (R : List Run) (r : Run) : ∀ k, (putK R r k).1.length ≤ 2 * k
 | 0 => by simp [putK_zero]
 | k + 1 => by
  rcases Nat.lt_or_ge k R.length with h | h
  ·rw [putK_succ h]
   have := putS_len r (putK R r k) R[k]
   have := putK_len R r k
   omega
  ·have e : putK R r (k + 1) = putK R r k := by unfold putK; rw [List.take_of_length_le (by omega), List.take_of_length_le (by omega)]
   rw [e]; have := putK_len R r k; omega
/-- all of it at once, in order -/
theorem put_fold (r : Run) : ∀ (R : List Run) (acc : List Run) (b : Bool), AscR R → (b = true → ∀ x ∈ R, ltS x.Name r.Name = false ∧ x.Name ≠ r.Name) →
  (let st := R.foldl (putS r) (acc, b); if st.2 then st.1 else st.1 ++ [r]) = acc ++ (if b then R else match runOf R r.Name with
   | some _ => setR r R
   | none => insR r R)
 | [], acc, b, _, _ => by cases b <;> simp [runOf, insR]
 | x :: R, acc, b, h, hb => by
  obtain ⟨h1, h2⟩ := AscR_cons.1 h
  rw [List.foldl_cons]
  cases b with
  | true =>
   have hx := hb rfl
   have e1 : putS r (acc, true) x = (acc ++ [x], true) := by
    unfold putS putA putB
    simp [rIs_ne (hx x (List.mem_cons_self ..)).2]
   rw [e1, put_fold r R (acc ++ [x]) true h2 (fun _ y hy => hx y (List.mem_cons_of_mem _ hy))]
   simp
  | false =>
   by_cases hlt : ltS x.Name r.Name = true
   ·have hne : x.Name ≠ r.Name := ltS_ne hlt
    have e1 : putS r (acc, false) x = (acc ++ [x], false) := by
     unfold putS putA putB
     simp [hlt, rIs_ne hne]
    rw [e1, put_fold r R (acc ++ [x]) false h2 (fun h => by cases h), runOf_cons, if_neg hne]
    simp only [Bool.false_eq_true, if_false, List.append_assoc, List.singleton_append, List.append_cancel_left_eq]
    cases hr : runOf R r.Name with
    | some y =>
     simp only [setR, List.map_cons, rIs_ne hne]
     simp
    | none =>
     simp only [insR]
     rw [ltS_asymm hlt]; simp
   ·have hlt := Bool.eq_false_iff.2 hlt
    have hbig : ∀ y ∈ R, ltS y.Name r.Name = false ∧ y.Name ≠ r.Name := by
     intro y hy
     have hxy := h1 y hy
     refine ⟨?_, fun e => ?_⟩
     ·cases hh : ltS y.Name r.Name with
      | false => rfl
      | true => rw [ltS_trans hxy hh] at hlt; cases hlt
     ·rw [e, hlt] at hxy; cases hxy
    by_cases hn : x.Name = r.Name
    ·have e1 : putS r (acc, false) x = (acc ++ [r], true) := by
      unfold putS putA putB
      simp [hlt, (rIs_iff _ _).2 hn]
     rw [e1, put_fold r R (acc ++ [r]) true h2 (fun _ => hbig), runOf_cons, if_pos hn]
     simp only [if_true, Bool.false_eq_true, if_false, List.append_assoc, List.singleton_append, List.append_cancel_left_eq, setR, List.map_cons, (rIs_iff _ _).2 hn]
     congr 1
     conv => lhs; rw [← List.map_id R]
     apply List.map_congr_left
     intro y hy
     rw [rIs_ne (hbig y hy).2]; rfl
    ·have e1 : putS r (acc, false) x = (acc ++ [r] ++ [x], true) := by
      unfold putS putA putB
      simp [hlt, rIs_ne hn]
     rw [e1, put_fold r R (acc ++ [r] ++ [x]) true h2 (fun _ => hbig), runOf_cons, if_neg hn]
     have hnone : runOf R r.Name = none := runOf_none.2 (fun y hy => (hbig y hy).2)
     rw [hnone]
     simp only [insR]
     have hrx : ltS r.Name x.Name = true := by
      cases hh : ltS r.Name x.Name with
      | true => rfl
      | false => exact absurd (ltS_tri hlt hh) hn
     rw [hrx]; simp
theorem putL_eq {R : List Run} (h : AscR R) (r : Run) : putL R r = match runOf R r.Name with
  | some _ => setR r R
  | none => insR r R := by
 have := put_fold r R [] false h (fun h => by cases h)
 simp only [Bool.false_eq_true, if_false, List.nil_append] at this
 rw [← this]
 unfold putL putK
 rw [List.take_length]
/-- runs in whatever order, put in order -/
def sortR (l : List Run) : List Run := l.foldl putL []
theorem putL_asc {R : List Run} (h : AscR R) (r : Run) : AscR (putL R r) := by
 rw [putL_eq h]
 cases hr : runOf R r.Name with
 | some _ => exact setR_asc h
 | none => exact insR_asc h (fun x hx => runOf_none.1 hr x hx)
theorem runOf_putL {R : List Run} (h : AscR R) (r : Run) (q : ByteArray) : runOf (putL R r) q = if q = r.Name then some r else runOf R q := by
 rw [putL_eq h]
 cases hr : runOf R r.Name with
 | some y =>
  rw [runOf_setR]
  by_cases e : q = r.Name
  ·rw [if_pos e, if_pos e, e, hr]; rfl
  ·rw [if_neg e, if_neg e]
 | none =>
  rw [runOf_insR (fun x hx => runOf_none.1 hr x hx)]
  by_cases e : q = r.Name
  ·rw [if_pos e.symm, if_pos e]
  ·rw [if_neg (fun k => e k.symm), if_neg e]
theorem sort_fold : ∀ (l R : List Run), AscR R → AscR (l.foldl putL R) ∧ ∀ q, (l.map Run.Name).Nodup → runOf (l.foldl putL R) q = match runOf l q with
  | some r => some r
  | none => runOf R q
 | [], R, h => ⟨h, fun q _ => rfl⟩
 | r :: l, R, h => by
  obtain ⟨h1, h2⟩ := sort_fold l (putL R r) (putL_asc h r)
  refine ⟨h1, fun q hn => ?_⟩
  rw [List.map_cons, List.nodup_cons] at hn
  rw [List.foldl_cons, h2 q hn.2, runOf_cons]
  by_cases e : r.Name = q
  ·have hnone : runOf l q = none := runOf_none.2 (fun x hx hxq => hn.1 (by rw [e, ← hxq]; exact List.mem_map.2 ⟨x, hx, rfl⟩))
   rw [hnone, if_pos e]
   simp only
   rw [runOf_putL h, if_pos e.symm]
  ·rw [if_neg e]
   cases hl : runOf l q with
   | some x => rfl
   | none => simp only; rw [runOf_putL h, if_neg (fun k => e k.symm)]
theorem sortR_asc (l : List Run) : AscR (sortR l) := (sort_fold l [] AscR.nil).1
theorem runOf_sortR {l : List Run} (hn : (l.map Run.Name).Nodup) (q : ByteArray) : runOf (sortR l) q = runOf l q := by
 unfold sortR
 rw [(sort_fold l [] AscR.nil).2 q hn]
 cases runOf l q <;> rfl
/-- what is wanted, in the order in which it was asked for -/
def wantU (W : Web) (l : List Run) (q : ByteArray) : List Run := if hasN W.Nodes q && (runOf l q).isNone then l ++ [newRun q] else l
def wantsU (W : Web) (l : List Run) (qs : List ByteArray) : List Run := qs.foldl (wantU W) l
theorem runOf_append (l m : List Run) (q : ByteArray) : runOf (l ++ m) q = match runOf l q with
  | some r => some r
  | none => runOf m q := by
 unfold runOf
 rw [List.find?_append]
 cases l.find? (rIs q) <;> rfl
theorem runOf_one (r : Run) (q : ByteArray) : runOf [r] q = if r.Name = q then some r else none := by
 rw [runOf_cons]; rfl
theorem runOf_wantU (W : Web) (l : List Run) (q p : ByteArray) : runOf (wantU W l q) p = match runOf l p with
  | some r => some r
  | none => if p = q ∧ hasN W.Nodes q = true then some (newRun q) else none := by
 unfold wantU
 cases h1 : hasN W.Nodes q with
 | false => simp only [Bool.false_and, Bool.false_eq_true, if_false, and_false]; cases runOf l p <;> rfl
 | true =>
  cases h2 : runOf l q with
  | some r =>
   simp only [Option.isNone_some, Bool.and_false, Bool.false_eq_true, if_false, and_true]
   cases h3 : runOf l p with
   | some x => rfl
   | none => simp only; rw [if_neg (fun e => by rw [e, h2] at h3; cases h3)]
  | none =>
   simp only [Option.isNone_none, Bool.and_true, if_true, and_true]
   rw [runOf_append, runOf_one]
   cases h3 : runOf l p with
   | some x => rfl
   | none =>
    by_cases e : q = p
    ·simp [newRun, e]
    ·simp [newRun, e, Ne.symm e]
theorem wantU_nodup {W : Web} {l : List Run} {q : ByteArray} (h : (l.map Run.Name).Nodup) : ((wantU W l q).map Run.Name).Nodup := by
 unfold wantU
 split
 ·rename_i h2
  simp only [Bool.and_eq_true, Option.isNone_iff_eq_none] at h2
  rw [List.map_append]
  refine List.nodup_append.2 ⟨h, by simp, fun a ha b hb e => ?_⟩
  simp only [List.map_cons, List.map_nil, List.mem_singleton, newRun] at hb
  obtain ⟨x, hx, rfl⟩ := List.mem_map.1 ha
  exact runOf_none.1 h2.2 x hx (e.trans hb)
 ·exact h
theorem wantsU_all (W : Web) : ∀ (qs : List ByteArray) (l : List Run), (l.map Run.Name).Nodup → ((wantsU W l qs).map Run.Name).Nodup ∧ ∀ p, runOf (wantsU W l qs) p = match runOf l p with
  | some r => some r
  | none => if p ∈ qs ∧ hasN W.Nodes p = true then some (newRun p) else none
 | [], l, h => ⟨h, fun p => by simp only [wantsU, List.foldl_nil]; cases runOf l p <;> simp⟩
 | q :: qs, l, h => by
  obtain ⟨h1, h2⟩ := wantsU_all W qs (wantU W l q) (wantU_nodup h)
  refine ⟨h1, fun p => ?_⟩
  simp only [wantsU, List.foldl_cons] at h2 ⊢
  rw [h2 p, runOf_wantU]
  cases h3 : runOf l p with
  | some r => rfl
  | none =>
   simp only
   by_cases e : p = q
   ·subst e
    by_cases hh : hasN W.Nodes p = true
    ·simp [hh]
    ·simp [hh]
   ·simp [e]
/-- asked for in order or put in order behind: the same -/
theorem sort_wantsU {W : Web} {R l : List Run} (hR : AscR R) (hl : (l.map Run.Name).Nodup) (he : ∀ q, runOf l q = runOf R q) (qs : List ByteArray) : sortR (wantsU W l qs) = wants W R qs := by
 obtain ⟨h1, h2⟩ := wantsU_all W qs l hl
 refine runs_ext (sortR_asc _) (wants_asc qs hR) (fun q => ?_)
 rw [runOf_sortR h1, h2, runOf_wants, he] <;> (cases runOf R q <;> rfl)
theorem sort_begin (W : Web) (roots : List ByteArray) : sortR (wantsU W [] roots) = begin_ W roots := sort_wantsU AscR.nil (by simp) (fun q => rfl) roots
end Go.Proofs.YtkpkfihaihoaeaaGreatDoor.M
end
section
set_option linter.unusedVariables false
set_option linter.unusedSimpArgs false
namespace Go.Proofs.YtkpkfihaihoaeaaGreatDoor.M
open Go.RowKit
open Go.ChangeMaps (setBlock heap_setBlock_same heap_setBlock_other)
open Go.MapKept (Stamped)
def strP (p : ByteArray × Value) : Value × Value := (.string p.1, p.2)
def entP (x : MapEntry) : Value × Value := (x.key, x.val)
def MapAt (w : World) (b : Nat) (C : List (ByteArray × Value)) : Prop := ∃ es clock, w.heap[b]? = some (.map es clock) ∧ Stamped es clock ∧ es.toList.map entP = C.map strP
def lookC (C : List (ByteArray × Value)) (q : ByteArray) : Option Value := (C.find? fun p => decide (p.1 = q)).map (·.2)
def putC (C : List (ByteArray × Value)) (q : ByteArray) (v : Value) : List (ByteArray × Value) := if (lookC C q).isSome then C.map (fun p => if p.1 = q then (p.1, v) else p) else C ++ [(q, v)]
def delC (C : List (ByteArray × Value)) (q : ByteArray) : List (ByteArray × Value) := C.filter fun p => decide (p.1 ≠ q)
theorem lookC_nil (q : ByteArray) : lookC [] q = none := rfl
theorem lookC_cons (p : ByteArray × Value) (C : List (ByteArray × Value)) (q : ByteArray) : lookC (p :: C) q = if p.1 = q then some p.2 else lookC C q := by
 unfold lookC
 rw [List.find?_cons]
 by_cases h : p.1 = q <;> simp [h]
theorem lookC_some {C : List (ByteArray × Value)} {q : ByteArray} {v : Value} (h : lookC C q = some v) : (q, v) ∈ C := by
 unfold lookC at h
 cases hf : C.find? (fun p => decide (p.1 = q)) with
 | none => rw [hf] at h; cases h
 | some p =>
  rw [hf] at h
  simp only [Option.map_some, Option.some.injEq] at h
  have h1 := List.find?_some hf
  have h2 := List.mem_of_find?_eq_some hf
  simp only [decide_eq_true_eq] at h1
  rw [← h1, ← h]; exact h2
theorem lookC_none {C : List (ByteArray × Value)} {q : ByteArray} : lookC C q = none ↔ ∀ p ∈ C, p.1 ≠ q := by
 unfold lookC
 rw [Option.map_eq_none_iff, List.find?_eq_none]
 simp
theorem lookC_mem : ∀ {C : List (ByteArray × Value)} {q : ByteArray} {v : Value}, (C.map (·.1)).Nodup → (q, v) ∈ C → lookC C q = some v
 | p :: C, q, v, hn, h => by
  rw [List.map_cons, List.nodup_cons] at hn
  rw [lookC_cons]
  rcases List.mem_cons.1 h with rfl | h
  ·simp
  ·rw [if_neg (fun e => hn.1 (by rw [e]; exact List.mem_map.2 ⟨_, h, rfl⟩)), lookC_mem hn.2 h]
theorem MapAt.nodup {w : World} {b : Nat} {C : List (ByteArray × Value)} (h : MapAt w b C) : (C.map (·.1)).Nodup := by
 obtain ⟨es, clock, _, hs, he⟩ := h
 have h1 := hs.2.2
 have e : es.toList.map (·.key) = C.map (fun p => Value.string p.1) := by
  have := congrArg (List.map Prod.fst) he
  rw [List.map_map, List.map_map] at this
  exact this
 rw [e] at h1
 have : (C.map fun p => Value.string p.1) = (C.map (·.1)).map Value.string := by rw [List.map_map]; rfl
 rw [this] at h1
 exact (List.pairwise_map.1 h1).imp (fun h e => h (congrArg _ e))
theorem MapAt.lt {w : World} {b : Nat} {C : List (ByteArray × Value)} (h : MapAt w b C) : b < w.heap.size := by
 obtain ⟨es, clock, hb, _⟩ := h
 exact (Array.getElem?_eq_some_iff.1 hb).1
theorem MapAt.move {w w' : World} {b : Nat} {C : List (ByteArray × Value)} (h : MapAt w b C) (hm : w'.heap[b]? = w.heap[b]?) : MapAt w' b C := by
 obtain ⟨es, clock, hb, hs⟩ := h
 exact ⟨es, clock, hm.trans hb, hs⟩
theorem MapAt.new (w : World) : MapAt (w.alloc (.map #[] 0)) w.heap.size [] := ⟨#[], 0, heap_alloc_new _ _, MapKept.stamped_empty 0, rfl⟩
section
variable {Pg : Program} {w : World} {b : Nat} {C : List (ByteArray × Value)}
theorem findNow_str (q : ByteArray) : ∀ (es : List MapEntry) (C : List (ByteArray × Value)) (i : Nat), es.map entP = C.map strP →
  (lookC C q = none ∧ Instr.findNow .string (.string q) es i = some none ∧ ∀ x ∈ es, x.key ≠ .string q) ∨
  ∃ j e v, lookC C q = some v ∧ Instr.findNow .string (.string q) es i = some (some (i + j, v)) ∧ es[j]? = some e ∧ e.key = .string q ∧ e.val = v ∧ ∀ k, k < j → ∀ x, es[k]? = some x → x.key ≠ .string q
 | [], C, i, h => by
  have : C = [] := by simpa using h.symm
  subst this
  exact .inl ⟨rfl, rfl, fun x hx => by cases hx⟩
 | e :: es, [], i, h => by simp at h
 | e :: es, p :: C, i, h => by
  simp only [List.map_cons, List.cons.injEq] at h
  obtain ⟨h1, h2⟩ := h
  have hk : e.key = .string p.1 := congrArg Prod.fst h1
  have hv : e.val = p.2 := congrArg Prod.snd h1
  rw [lookC_cons]
  by_cases hp : p.1 = q
  ·right
   refine ⟨0, e, p.2, by rw [if_pos hp], ?_, rfl, by rw [hk, hp], hv, fun k hk => absurd hk (Nat.not_lt_zero _)⟩
   unfold Instr.findNow
   rw [hk]
   simp [Instr.sameNow, hp, hv]
  ·rw [if_neg hp]
   have hf : Instr.findNow .string (.string q) (e :: es) i = Instr.findNow .string (.string q) es (i + 1) := by
    conv => lhs; unfold Instr.findNow
    rw [hk]
    have : (q == p.1) = false := by rw [beq_eq_false_iff_ne]; exact fun e => hp e.symm
    simp [Instr.sameNow, this]
   rcases findNow_str q es C (i + 1) h2 with ⟨g1, g2, g3⟩ | ⟨j, e', v, g1, g2, g3, g4, g5, g6⟩
   ·left
    refine ⟨g1, by rw [hf, g2], fun x hx => ?_⟩
    rcases List.mem_cons.1 hx with rfl | hx
    ·rw [hk]; intro e; cases e; exact hp rfl
    ·exact g3 x hx
   ·right
    refine ⟨j + 1, e', v, g1, by rw [hf, g2, Nat.add_assoc, Nat.add_comm 1 j], g3, g4, g5, fun k hkj x hx => ?_⟩
    cases k with
    | zero => simp at hx; subst hx; rw [hk]; intro e; cases e; exact hp rfl
    | succ k => exact g6 k (by omega) x (by simpa using hx)
theorem run_find_none {kt : TypeId} (hk : Pg.underlying kt = some .string) {es : List MapEntry} {q : ByteArray} (h : Instr.findNow .string (.string q) es 0 = some none) : (Instr.findKey kt (.string q) es).run Pg w = .ok none w := by
 simp [Instr.findKey, run_underlying hk, h]
theorem run_find_some {kt : TypeId} (hk : Pg.underlying kt = some .string) {es : List MapEntry} {q : ByteArray} {r : Nat × Value} (h : Instr.findNow .string (.string q) es 0 = some (some r)) : (Instr.findKey kt (.string q) es).run Pg w = .ok (some r) w := by
 simp [Instr.findKey, run_underlying hk, h]
theorem run_check_str {kt : TypeId} (hk : Pg.underlying kt = some .string) (e : Bool) (q : ByteArray) : (Instr.checkKey e 10000 kt (.string q)).run Pg w = .ok () w := MapKept.run_checkKey hk (show MapKept.IsKey .string (.string q) from trivial) e 9999
/-- m[q] and v, ok := m[q] -/
theorem MapAt.look (h : MapAt w b C) {t kt et : TypeId} (ht : Pg.underlying t = some (.map kt et)) (hk : Pg.underlying kt = some .string) {z : Value} (hz : (zeroValue et).run Pg w = .ok z w) (q : ByteArray) (c : Bool) :
  (Instr.lookup t (.map (some b)) (.string q) c).run Pg w = .ok (if c then .tuple #[(lookC C q).getD z, .bool (lookC C q).isSome] else (lookC C q).getD z) w := by
 obtain ⟨es, clock, hb, hs, he⟩ := h
 rcases findNow_str q es.toList C 0 he with ⟨g1, g2, g3⟩ | ⟨j, e, v, g1, g2, g3, g4, g5, g6⟩
 ·rw [g1]
  simp [Instr.lookup, run_underlying ht, MapKept.run_getObj_map hb, run_check_str hk, run_find_none hk g2, hz, Result.andThen]
 ·rw [g1]
  simp [Instr.lookup, run_underlying ht, MapKept.run_getObj_map hb, run_check_str hk, run_find_some hk g2, Result.andThen]
/-- another map's block has turned, nothing else -/
structure OnlyB (b : Nat) (w w' : World) : Prop where
 os : w'.os = w.os
 tape : w'.tape = w.tape
 output : w'.output = w.output
 size : w'.heap.size = w.heap.size
 block : ∀ k, k ≠ b → w'.heap[k]? = w.heap[k]?
theorem onlyB_set {es : Array MapEntry} {clock : Nat} (hb : w.heap[b]? = some (.map es clock)) (o : Obj) : OnlyB b w (setBlock w b o) := ⟨rfl, rfl, rfl, by simp [setBlock], fun k hk => heap_setBlock_other hb o hk⟩
theorem map_modify (f : MapEntry → MapEntry) (es : Array MapEntry) (j : Nat) : (es.modify j f).toList = es.toList.modify j f := by simp
theorem mod_map : ∀ (es : List MapEntry) (C : List (ByteArray × Value)) (j : Nat) (q : ByteArray) (v : Value) (e : MapEntry), es.map entP = C.map strP → (C.map (·.1)).Nodup → es[j]? = some e → e.key = .string q →
  (es.modify j fun e => { e with key := .string q, val := v }).map entP = (C.map fun p => if p.1 = q then (p.1, v) else p).map strP
 | [], _, _, _, _, _, _, _, h, _ => by simp at h
 | x :: es, [], _, _, _, _, h, _, _, _ => by simp at h
 | x :: es, p :: C, 0, q, v, e, h, hn, hj, hk => by
  simp only [List.map_cons, List.cons.injEq] at h
  rw [List.map_cons, List.nodup_cons] at hn
  simp at hj; subst hj
  have hp : p.1 = q := by
   have := congrArg Prod.fst h.1
   simp only [entP, strP] at this
   rw [hk] at this; cases this; rfl
  have hrest : (C.map fun p => if p.1 = q then (p.1, v) else p) = C := by
   conv => rhs; rw [← List.map_id C]
   apply List.map_congr_left
   intro r hr
   rw [if_neg (fun e => hn.1 (by rw [hp, ← e]; exact List.mem_map.2 ⟨r, hr, rfl⟩))]; rfl
  rw [List.map_cons, hrest, if_pos hp, List.map_cons, ← h.2]
  simp [entP, strP, hp]
 | x :: es, p :: C, j + 1, q, v, e, h, hn, hj, hk => by
  simp only [List.map_cons, List.cons.injEq] at h
  rw [List.map_cons, List.nodup_cons] at hn
  have hj' : es[j]? = some e := by simpa using hj
  have hne : p.1 ≠ q := by
   rintro rfl
   have hm : e ∈ es := List.mem_of_getElem? hj'
   have : entP e ∈ C.map strP := by rw [← h.2]; exact List.mem_map.2 ⟨e, hm, rfl⟩
   obtain ⟨r, hr, e1⟩ := List.mem_map.1 this
   have := congrArg Prod.fst e1
   simp only [entP, strP] at this
   rw [hk] at this
   exact hn.1 (List.mem_map.2 ⟨r, hr, Value.string.inj this⟩)
  have ih := mod_map es C j q v e h.2 hn.2 hj' hk
  rw [List.map_cons, if_neg hne, List.map_cons, ← ih, ← h.1]
  simp
theorem MapAt.update (h : MapAt w b C) {t kt et : TypeId} (ht : Pg.underlying t = some (.map kt et)) (hk : Pg.underlying kt = some .string) (q : ByteArray) (v : Value) :
  ∃ w', (Instr.mapUpdate t (.map (some b)) (.string q) v).run Pg w = .ok () w' ∧ MapAt w' b (putC C q v) ∧ OnlyB b w w' := by
 have hn := h.nodup
 obtain ⟨es, clock, hb, hs, he⟩ := h
 rcases findNow_str q es.toList C 0 he with ⟨g1, g2, g3⟩ | ⟨j, e, u, g1, g2, g3, g4, g5, g6⟩
 ·refine ⟨setBlock w b (.map (es.push ⟨.string q, v, clock⟩) (clock + 1)), ?_, ⟨_, _, heap_setBlock_same hb _, MapKept.stamped_push hs g3, ?_⟩, onlyB_set hb _⟩
  ·simp [Instr.mapUpdate, run_underlying ht, MapKept.run_getObj_map hb, run_check_str hk, run_find_none hk g2, MapKept.run_setObj_map _ hb, Result.andThen, setBlock]
  ·unfold putC
   rw [g1, Array.toList_push, List.map_append, he]
   simp [entP, strP]
 ·have hj : es[j]? = some e := by simpa using g3
  have hst : (Instr.keyThatStays (((es[j]?).map (·.key)).getD (.string q)) (.string q)).run Pg w = .ok (.string q) w := by
   rw [hj]
   simp only [Option.map_some, Option.getD_some, g4]
   unfold Instr.keyThatStays
   have : Instr.sameBits 10000 (.string q) (.string q) = true := by unfold Instr.sameBits; simp
   rw [this]; rfl
  refine ⟨setBlock w b (.map (es.modify j fun e => { e with key := .string q, val := v }) clock), ?_, ⟨_, _, heap_setBlock_same hb _, MapKept.stamped_modify hs j _ (fun _ _ => rfl) (fun x _ hx => ?_), ?_⟩, onlyB_set hb _⟩
  ·simp [Instr.mapUpdate, run_underlying ht, MapKept.run_getObj_map hb, run_check_str hk, run_find_some hk g2, MapKept.run_setObj_map _ hb, Result.andThen, setBlock, hst]
  ·rw [hj] at hx; cases hx; exact g4.symm
  ·unfold putC
   rw [g1]
   simp only [Option.isSome_some, if_true]
   rw [map_modify]
   exact mod_map es.toList C j q v e he hn g3 g4
theorem erase_map : ∀ (es : List MapEntry) (C : List (ByteArray × Value)) (j : Nat) (q : ByteArray) (e : MapEntry), es.map entP = C.map strP → (C.map (·.1)).Nodup → es[j]? = some e → e.key = .string q →
  (es.eraseIdx j).map entP = (delC C q).map strP
 | [], _, _, _, _, _, _, h, _ => by simp at h
 | x :: es, [], _, _, _, h, _, _, _ => by simp at h
 | x :: es, p :: C, 0, q, e, h, hn, hj, hk => by
  simp only [List.map_cons, List.cons.injEq] at h
  rw [List.map_cons, List.nodup_cons] at hn
  simp at hj; subst hj
  have hp : p.1 = q := by
   have := congrArg Prod.fst h.1
   simp only [entP, strP] at this
   rw [hk] at this; cases this; rfl
  unfold delC
  rw [List.filter_cons, if_neg (by simp [hp])]
  have : C.filter (fun p => decide (p.1 ≠ q)) = C := by
   rw [List.filter_eq_self]
   intro r hr
   simp only [ne_eq, decide_eq_true_eq]
   exact fun e => hn.1 (by rw [hp, ← e]; exact List.mem_map.2 ⟨r, hr, rfl⟩)
  rw [this, ← h.2]; simp
 | x :: es, p :: C, j + 1, q, e, h, hn, hj, hk => by
  simp only [List.map_cons, List.cons.injEq] at h
  rw [List.map_cons, List.nodup_cons] at hn
  have hj' : es[j]? = some e := by simpa using hj
  have hne : p.1 ≠ q := by
   rintro rfl
   have hm : e ∈ es := List.mem_of_getElem? hj'
   have : entP e ∈ C.map strP := by rw [← h.2]; exact List.mem_map.2 ⟨e, hm, rfl⟩
   obtain ⟨r, hr, e1⟩ := List.mem_map.1 this
   have := congrArg Prod.fst e1
   simp only [entP, strP] at this
   rw [hk] at this
   exact hn.1 (List.mem_map.2 ⟨r, hr, Value.string.inj this⟩)
  have ih := erase_map es C j q e h.2 hn.2 hj' hk
  unfold delC at ih ⊢
  rw [List.filter_cons, if_pos (by simp [hne]), List.map_cons, ← ih, ← h.1]
  simp
theorem delC_none {q : ByteArray} (h : lookC C q = none) : delC C q = C := by
 unfold delC
 rw [List.filter_eq_self]
 intro p hp
 simpa using lookC_none.1 h p hp
theorem MapAt.delete (h : MapAt w b C) {t kt et : TypeId} (ht : Pg.underlying t = some (.map kt et)) (hk : Pg.underlying kt = some .string) (q : ByteArray) (ty : TypeId) :
  ∃ w', (Builtin.delete_ #[t, kt] ty #[.map (some b), .string q]).run Pg w = .ok (.tuple #[]) w' ∧ MapAt w' b (delC C q) ∧ OnlyB b w w' := by
 have hn := h.nodup
 obtain ⟨es, clock, hb, hs, he⟩ := h
 rcases findNow_str q es.toList C 0 he with ⟨g1, g2, g3⟩ | ⟨j, e, u, g1, g2, g3, g4, g5, g6⟩
 ·refine ⟨setBlock w b (.map es clock), ?_, ⟨_, _, heap_setBlock_same hb _, hs, by rw [delC_none g1]; exact he⟩, onlyB_set hb _⟩
  simp [Builtin.delete_, run_underlying ht, MapKept.run_getObj_map hb, run_check_str hk, run_find_none hk g2, MapKept.run_setObj_map _ hb, Result.andThen, setBlock]
 ·refine ⟨setBlock w b (.map (es.eraseIdxIfInBounds j) clock), ?_, ⟨_, _, heap_setBlock_same hb _, MapKept.stamped_erase hs j, ?_⟩, onlyB_set hb _⟩
  ·simp [Builtin.delete_, run_underlying ht, MapKept.run_getObj_map hb, run_check_str hk, run_find_some hk g2, MapKept.run_setObj_map _ hb, Result.andThen, setBlock]
  ·have hj : j < es.size := by
    have := (List.getElem?_eq_some_iff.1 g3).1
    simpa using this
   have : (es.eraseIdxIfInBounds j).toList = es.toList.eraseIdx j := by
    unfold Array.eraseIdxIfInBounds
    rw [dif_pos hj]; simp
   rw [this]
   exact erase_map es.toList C j q e he hn g3 g4
/-- an iterator r over the map b, before which the entries L still lie -/
def ItAt (w : World) (b r : Nat) (C L : List (ByteArray × Value)) : Prop := ∃ es clock since seen c0, w.heap[b]? = some (.map es clock) ∧ Stamped es clock ∧ es.toList.map entP = C.map strP ∧
 w.heap[r]? = some (.mapIter (some b) since seen c0) ∧ (∀ x ∈ es.toList, x.born < since) ∧ since ≤ c0 ∧ since ≤ clock ∧ (leftOf es seen).toList.map entP = L.map strP
theorem ItAt.map {r : Nat} {L : List (ByteArray × Value)} (h : ItAt w b r C L) : MapAt w b C := by
 obtain ⟨es, clock, since, seen, c0, hb, hs, he, _⟩ := h
 exact ⟨es, clock, hb, hs, he⟩
theorem ItAt.lt {r : Nat} {L : List (ByteArray × Value)} (h : ItAt w b r C L) : r < w.heap.size := by
 obtain ⟨es, clock, since, seen, c0, hb, hs, he, hr, _⟩ := h
 exact (Array.getElem?_eq_some_iff.1 hr).1
theorem ItAt.move {w' : World} {r : Nat} {L : List (ByteArray × Value)} (h : ItAt w b r C L) (hb : w'.heap[b]? = w.heap[b]?) (hr : w'.heap[r]? = w.heap[r]?) : ItAt w' b r C L := by
 obtain ⟨es, clock, since, seen, c0, h1, h2, h3, h4, h5⟩ := h
 exact ⟨es, clock, since, seen, c0, hb.trans h1, h2, h3, hr.trans h4, h5⟩
theorem MapAt.range (h : MapAt w b C) {t kt et : TypeId} (ht : Pg.underlying t = some (.map kt et)) :
  ∃ w', (Instr.range t (.map (some b))).run Pg w = .ok (.pointer (some ⟨w.heap.size, 0, none⟩)) w' ∧ ItAt w' b w.heap.size C C ∧ Below w.heap.size w w' ∧ w'.heap.size = w.heap.size + 1 := by
 obtain ⟨es, clock, hb, hs, he⟩ := h
 have hlt : b < w.heap.size := (Array.getElem?_eq_some_iff.1 hb).1
 refine ⟨_, run_range_map w t kt et b es clock ht hb, ⟨es, clock, clock, #[], clock, (heap_alloc_old _ _ hlt).trans hb, hs, he, heap_alloc_new _ _, fun x hx => hs.1 x hx, Nat.le_refl _, Nat.le_refl _, ?_⟩, below_al (Below.refl _ _) _, by simp⟩
 have : leftOf es #[] = es := by unfold leftOf; simp
 rw [this]; exact he
theorem mem_leftOf {es : Array MapEntry} {seen : Array Nat} {e : MapEntry} : e ∈ (leftOf es seen).toList ↔ e ∈ es.toList ∧ e.born ∉ seen := by
 unfold leftOf; simp
theorem filter_map_ent : ∀ (l : List MapEntry) (L : List (ByteArray × Value)) (q : ByteArray) (f : MapEntry → Bool), l.map entP = L.map strP → (∀ x ∈ l, f x = true ↔ x.key ≠ .string q) → (l.filter f).map entP = (delC L q).map strP
 | [], L, q, f, h, _ => by
  have : L = [] := by simpa using h.symm
  subst this; rfl
 | x :: l, [], q, f, h, _ => by simp at h
 | x :: l, p :: L, q, f, h, hf => by
  simp only [List.map_cons, List.cons.injEq] at h
  have hk : x.key = .string p.1 := congrArg Prod.fst h.1
  have ih := filter_map_ent l L q f h.2 (fun y hy => hf y (List.mem_cons_of_mem _ hy))
  have hx := hf x (List.mem_cons_self ..)
  unfold delC at ih ⊢
  rw [List.filter_cons, List.filter_cons]
  by_cases hp : p.1 = q
  ·have : f x = false := by
    rw [Bool.eq_false_iff]
    intro hh
    exact hx.1 hh (by rw [hk, hp])
   rw [this, if_neg (by simp), if_neg (by simp [hp])]; exact ih
  ·have : f x = true := hx.2 (by rw [hk]; intro e; cases e; exact hp rfl)
   rw [this, if_pos rfl, if_pos (by simp [hp]), List.map_cons, List.map_cons, ih, h.1]
theorem ItAt.next {r : Nat} {L : List (ByteArray × Value)} (h : ItAt w b r C L) (hbr : b ≠ r) (ty : TypeId) :
  (L = [] ∧ (Instr.next (.pointer (some ⟨r, 0, none⟩)) false ty).run Pg w = .ok (.tuple #[.bool false]) w) ∨
  ∃ p w', p ∈ L ∧ (Instr.next (.pointer (some ⟨r, 0, none⟩)) false ty).run Pg w = .ok (.tuple #[.bool true, .string p.1, p.2]) w' ∧ ItAt w' b r C (delC L p.1) ∧ OnlyB r w w' ∧
   (Instr.entry (.pointer (some ⟨r, 0, none⟩))).run Pg w' = .ok (.tuple #[.string p.1, p.2]) w' := by
 obtain ⟨es, clock, since, seen, c0, h1, h2, h3, h4, h5, h6, h7, h8⟩ := h
 rcases run_next_at (P := Pg) w ty r b since c0 seen es clock h4 h1 h5 h6 with ⟨g0, g1⟩ | ⟨e, he, w1, hal, g1⟩
 ·left
  have : (leftOf es seen).toList = [] := by
   apply List.eq_nil_of_length_eq_zero; simpa using g0
  rw [this] at h8
  exact ⟨by simpa using h8.symm, g1⟩
 ·right
  obtain ⟨hem, hen⟩ := mem_leftOf.1 he
  have : entP e ∈ L.map strP := by rw [← h8]; exact List.mem_map.2 ⟨e, he, rfl⟩
  obtain ⟨p, hp, hpe⟩ := List.mem_map.1 this
  have hk : e.key = .string p.1 := (congrArg Prod.fst hpe).symm
  have hv : e.val = p.2 := (congrArg Prod.snd hpe).symm
  have hr1 : w1.heap[r]? = some (.mapIter (some b) since seen c0) := by rcases hal with rfl | rfl <;> exact h4
  have hb1 : w1.heap[b]? = some (.map es clock) := by rcases hal with rfl | rfl <;> exact h1
  have hrl : r < w1.heap.size := (Array.getElem?_eq_some_iff.1 hr1).1
  have hs1 : (setBlock w1 r (.mapIter (some b) since (seen.push e.born) clock)).heap[r]? = some (.mapIter (some b) since (seen.push e.born) clock) := by
   simp [setBlock, hrl]
  have hs2 : ∀ k, k ≠ r → (setBlock w1 r (.mapIter (some b) since (seen.push e.born) clock)).heap[k]? = w.heap[k]? := by
   intro k hk
   have : (setBlock w1 r (.mapIter (some b) since (seen.push e.born) clock)).heap[k]? = w1.heap[k]? := by
    simp only [setBlock]
    rw [Array.getElem?_setIfInBounds_ne (Ne.symm hk)]
   rw [this]
   rcases hal with rfl | rfl <;> rfl
  refine ⟨p, _, hp, by rw [hk, hv] at g1; exact g1, ⟨es, clock, since, seen.push e.born, clock, (hs2 b hbr).trans h1, h2, h3, hs1, h5, h7, h7, ?_⟩, ⟨?_, ?_, ?_, ?_, hs2⟩, ?_⟩
  ·have hl : (leftOf es (seen.push e.born)).toList = (leftOf es seen).toList.filter (fun x => decide (x.born ≠ e.born)) := by
    unfold leftOf
    simp only [Array.toList_filter, List.filter_filter]
    congr 1
    funext x
    rw [Bool.eq_iff_iff]
    simp [and_comm, not_or]
   rw [hl]
   refine filter_map_ent _ L p.1 _ h8 (fun x hx => ?_)
   have hxm := (mem_leftOf.1 hx).1
   simp only [decide_eq_true_eq, ne_eq]
   rw [← hk]
   constructor
   ·intro hne hke
    exact hne (by rw [entry_eq_of_key ((MapKept.stamped_iff es clock).1 h2).2.2 hxm hem hke])
   ·intro hne hbe
    have := (MapKept.stamped_iff es clock).1 h2
    apply hne
    have hnd := h2.2.1
    have : x = e := by
     have key : ∀ (l : List MapEntry), (l.map (·.born)).Nodup → x ∈ l → e ∈ l → x.born = e.born → x = e := by
      intro l
      induction l with
      | nil => intro _ hx; cases hx
      | cons a l ih =>
       intro hn hx he hb
       rw [List.map_cons, List.nodup_cons] at hn
       rcases List.mem_cons.1 hx with hx1 | hx1
       ·rcases List.mem_cons.1 he with he1 | he1
        ·rw [hx1, he1]
        ·exact absurd (List.mem_map.2 ⟨e, he1, by rw [← hb, hx1]⟩) hn.1
       ·rcases List.mem_cons.1 he with he1 | he1
        ·exact absurd (List.mem_map.2 ⟨x, hx1, by rw [hb, he1]⟩) hn.1
        ·exact ih hn.2 hx1 he1 hb
     exact key _ hnd hxm hem hbe
    rw [this]
  ·rcases hal with rfl | rfl <;> rfl
  ·rcases hal with rfl | rfl <;> rfl
  ·rcases hal with rfl | rfl <;> rfl
  ·rcases hal with rfl | rfl <;> simp [setBlock]
  ·rw [← hk, ← hv]
   exact run_entry_at _ r b since seen es clock e hs1 ((hs2 b hbr).trans h1) hem h2.2.1
/-- delete of a key that has come, in a round -/
theorem ItAt.delete {r : Nat} {L : List (ByteArray × Value)} (h : ItAt w b r C L) {t kt et : TypeId} (ht : Pg.underlying t = some (.map kt et)) (hk : Pg.underlying kt = some .string) (hbr : b ≠ r) (q : ByteArray) (hq : ∀ p ∈ L, p.1 ≠ q) (ty : TypeId) :
  ∃ w', (Builtin.delete_ #[t, kt] ty #[.map (some b), .string q]).run Pg w = .ok (.tuple #[]) w' ∧ ItAt w' b r (delC C q) L ∧ OnlyB b w w' := by
 have hn := h.map.nodup
 obtain ⟨es, clock, since, seen, c0, hb, hs, he, h4, h5, h6, h7, h8⟩ := h
 rcases findNow_str q es.toList C 0 he with ⟨g1, g2, g3⟩ | ⟨j, e, u, g1, g2, g3, g4, g5, g6⟩
 ·refine ⟨setBlock w b (.map es clock), ?_, ⟨es, clock, since, seen, c0, heap_setBlock_same hb _, hs, by rw [delC_none g1]; exact he, (heap_setBlock_other hb _ hbr.symm).trans h4, h5, h6, h7, h8⟩, onlyB_set hb _⟩
  simp [Builtin.delete_, run_underlying ht, MapKept.run_getObj_map hb, run_check_str hk, run_find_none hk g2, MapKept.run_setObj_map _ hb, Result.andThen, setBlock]
 ·have hj : j < es.size := by
   have := (List.getElem?_eq_some_iff.1 g3).1
   simpa using this
  have hel : (es.eraseIdxIfInBounds j).toList = es.toList.eraseIdx j := by
   unfold Array.eraseIdxIfInBounds
   rw [dif_pos hj]; simp
  refine ⟨setBlock w b (.map (es.eraseIdxIfInBounds j) clock), ?_, ⟨es.eraseIdxIfInBounds j, clock, since, seen, c0, heap_setBlock_same hb _, MapKept.stamped_erase hs j, ?_, (heap_setBlock_other hb _ hbr.symm).trans h4, fun x hx => h5 x ?_, h6, h7, ?_⟩, onlyB_set hb _⟩
  ·simp [Builtin.delete_, run_underlying ht, MapKept.run_getObj_map hb, run_check_str hk, run_find_some hk g2, MapKept.run_setObj_map _ hb, Result.andThen, setBlock]
  ·rw [hel]
   exact erase_map es.toList C j q e he hn g3 g4
  ·rw [hel] at hx
   exact List.mem_of_mem_eraseIdx hx
  ·have hseen : e.born ∈ seen := by
    refine Classical.byContradiction fun hns => ?_
    have hm : e ∈ (leftOf es seen).toList := mem_leftOf.2 ⟨List.mem_of_getElem? g3, hns⟩
    have : entP e ∈ L.map strP := by rw [← h8]; exact List.mem_map.2 ⟨e, hm, rfl⟩
    obtain ⟨p, hp, hpe⟩ := List.mem_map.1 this
    have hke : e.key = .string p.1 := (congrArg Prod.fst hpe).symm
    rw [g4] at hke; cases hke
    exact hq p hp rfl
   have : (leftOf (es.eraseIdxIfInBounds j) seen).toList = (leftOf es seen).toList := by
    unfold leftOf
    simp only [Array.toList_filter, hel]
    have key : ∀ (l : List MapEntry) (j : Nat), l[j]? = some e → (l.eraseIdx j).filter (fun e => !seen.contains e.born) = l.filter (fun e => !seen.contains e.born) := by
     intro l
     induction l with
     | nil => intro j hj; simp at hj
     | cons a l ih =>
      intro j hj
      cases j with
      | zero => simp at hj; subst hj; simp [hseen]
      | succ j => rw [List.eraseIdx_cons_succ, List.filter_cons, List.filter_cons, ih j (by simpa using hj)]
    exact key _ j g3
   rw [this]; exact h8
end
/-! ### at the operations -/
section
variable {Pg : Program} {w : World} {ops : Array Oper} {rest : List Oper} {o : Oper} {a : Act} {Q : Exit → Act → World → Prop} {b : Nat} {C : List (ByteArray × Value)}
theorem wpMapSet (hg : o.guard = none) {m x v : Operand} {t kt et : TypeId} (hop : o.op = Op.mapUpdate t m x v) (ht : Pg.underlying t = some (.map kt et)) (hk : Pg.underlying kt = some .string) (hm : a.eval m = .map (some b)) (h : MapAt w b C)
  {q : ByteArray} {u : Value} (hx : a.eval x = .string q) (hv : a.eval v = u) (hK : ∀ w', MapAt w' b (putC C q u) → OnlyB b w w' → wpList Pg ops Q rest (a.put o.dst undef) w') : wpList Pg ops Q (o :: rest) a w := by
 refine wpList_plain hg fun K' hK' => ?_
 obtain ⟨w', hrun, r1, r2⟩ := h.update ht hk q u
 unfold Oper.wp
 simp [execOp, hop, hm, hx, hv, hrun, Result.andThen]
 exact hK' _ _ (hK w' r1 r2)
theorem wpMapRange (hg : o.guard = none) {m : Operand} {t kt et : TypeId} (hop : o.op = Op.range t m) (ht : Pg.underlying t = some (.map kt et)) (hm : a.eval m = .map (some b)) (h : MapAt w b C)
  (hK : ∀ w', ItAt w' b w.heap.size C C → Below w.heap.size w w' → w'.heap.size = w.heap.size + 1 → wpList Pg ops Q rest (a.put o.dst (.pointer (some ⟨w.heap.size, 0, none⟩))) w') : wpList Pg ops Q (o :: rest) a w := by
 refine wpList_plain hg fun K' hK' => ?_
 obtain ⟨w', hrun, r1, r2, r3⟩ := h.range ht
 unfold Oper.wp
 simp [execOp, hop, hm, hrun, Result.andThen]
 exact hK' _ _ (hK w' r1 r2 r3)
theorem wpMapNext (hg : o.guard = none) {it : Operand} (hop : o.op = Op.next it false) {r : Nat} {L : List (ByteArray × Value)} (hit : a.eval it = .pointer (some ⟨r, 0, none⟩)) (h : ItAt w b r C L) (hbr : b ≠ r)
  (hDone : L = [] → wpList Pg ops Q rest (a.put o.dst (.tuple #[.bool false])) w)
  (hMore : ∀ (p : ByteArray × Value) (w' : World), p ∈ L → ItAt w' b r C (delC L p.1) → OnlyB r w w' → (Instr.entry (.pointer (some ⟨r, 0, none⟩))).run Pg w' = .ok (.tuple #[.string p.1, p.2]) w' → wpList Pg ops Q rest (a.put o.dst (.tuple #[.bool true, .string p.1, p.2])) w') :
  wpList Pg ops Q (o :: rest) a w := by
 refine wpList_plain hg fun K' hK' => ?_
 unfold Oper.wp
 rcases h.next (Pg := Pg) hbr o.type with ⟨h0, hrun⟩ | ⟨p, w', hp, hrun, h1, h2, h3⟩
 ·simp [execOp, hop, hit, hrun, Result.andThen]
  exact hK' _ _ (hDone h0)
 ·simp [execOp, hop, hit, hrun, Result.andThen]
  exact hK' _ _ (hMore p w' hp h1 h2 h3)
theorem wpMapDel (hg : o.guard = none) {m x : Operand} {t kt et : TypeId} (hop : o.op = Op.call { callee := Callee.builtin Builtin.delete, args := #[m, x], argTypes := #[t, kt] }) (ht : Pg.underlying t = some (.map kt et)) (hk : Pg.underlying kt = some .string) (hm : a.eval m = .map (some b)) (h : MapAt w b C)
  {q : ByteArray} (hx : a.eval x = .string q) (hK : ∀ w', MapAt w' b (delC C q) → OnlyB b w w' → wpList Pg ops Q rest (a.put o.dst (.tuple #[])) w') : wpList Pg ops Q (o :: rest) a w := by
 refine wpList_plain hg fun K' hK' => ?_
 obtain ⟨w', hrun, r1, r2⟩ := h.delete ht hk q o.type
 unfold Oper.wp
 simp [execOp, hop, resolve, invoke, builtin, hm, hx, hrun, Result.andThen]
 exact hK' _ _ (hK w' r1 r2)
end
end Go.Proofs.YtkpkfihaihoaeaaGreatDoor.M
end
section
set_option linter.unusedVariables false
set_option linter.unusedSimpArgs false
namespace Go.Proofs.YtkpkfihaihoaeaaGreatDoor.M
open Go.RowKit
/-- no slice in it -/
def T.flat : T → Bool
 | .l _ _ _ _ => false
 | _ => true
theorem owns_flat_of_reps {w : World} : ∀ {ts : List T} {vs : List Value}, reps w ts vs → (∀ t ∈ ts, t.flat = true) → owns w ts vs []
 | [], vs, h, _ => by simp only [reps] at h; subst h; simp [owns]
 | t :: ts, vs, h, hf => by
  simp only [reps] at h
  obtain ⟨v, us, rfl, h1, h2⟩ := h
  have k2 := owns_flat_of_reps h2 (fun t ht => hf t (List.mem_cons_of_mem _ ht))
  have ht := hf t (List.mem_cons_self ..)
  simp only [owns]
  refine ⟨v, us, [], [], rfl, ?_, k2, rfl⟩
  cases t with
  | i k n => simp only [rep] at h1; subst h1; exact own_i _ _ _
  | b x => simp only [rep] at h1; subst h1; exact own_b _ _
  | s x => simp only [rep] at h1; subst h1; exact own_s _ _
  | l e sz n c => simp [T.flat] at ht
theorem reps_one' {w : World} : ∀ {ts : List T} {vs : List Value}, reps w ts vs → ∀ u ∈ vs, u.oneCell' = true
 | [], _, h, u, hu => by simp only [reps] at h; subst h; cases hu
 | t :: ts, _, h, u, hu => by
  simp only [reps] at h
  obtain ⟨v, us, rfl, h1, h2⟩ := h
  rcases List.mem_cons.1 hu with rfl | hu
  ·cases t with
   | i k n => simp only [rep] at h1; subst h1; rfl
   | b x => simp only [rep] at h1; subst h1; rfl
   | s x => simp only [rep] at h1; subst h1; rfl
   | l e sz n c =>
    simp only [rep] at h1
    obtain ⟨_, _, A, c, vs, rfl, _⟩ := h1
    rfl
  ·exact reps_one' h2 u hu
/-- a new slice of no element -/
theorem own_empty (w : World) (e sz : Nat) : own (w.alloc (.cells #[] e)) (.l e sz 0 []) (.slice (some ⟨w.heap.size, 0, none⟩) 0 0) [w.heap.size] := by
 simp only [own]
 refine .inl ⟨[], [], World.ownsRow_lit w #[] 0 (Nat.zero_le _) (Nat.zero_le _) (by simp), by simp [owns], by simp [Value.ownBlock], fun k _ hk => by cases hk⟩
theorem below_gr {w W W' : World} (h : Below w.heap.size w W) {row : Option Nat} (hg : W.grownBy W' row) (hr : ∀ k, row = some k → w.heap.size ≤ k) : Below w.heap.size w W' :=
 ⟨hg.os.trans h.os, hg.tape.trans h.tape, hg.output.trans h.output, Nat.le_trans h.size hg.size, fun k hk => (hg.block k (Nat.lt_of_lt_of_le hk h.size) (fun e => absurd (hr k e.symm) (by omega))).trans (h.block k hk)⟩
section
variable {Pg : Program} {w : World} {ops : Array Oper} {rest : List Oper} {o : Oper} {a : Act} {Q : Exit → Act → World → Prop}
/-- append onto a row of the call's own, whatever its cells hold -/
theorem appR (hgd : o.guard = none) {s x : Operand} {t : TypeId} (ho : o.op = .call { callee := .builtin .append, args := #[s, x], argTypes := #[t, t] }) {e sz by_ : Nat} {z : Value} (ht : Pg.underlying t = some (.slice e))
  (hi : (Pg.info? e).map (fun i => (i.zero, i.size, i.bytes)) = some (some z, sz, by_)) (hzs : z.cells.size = sz) (hsz : 0 < sz) {v : Value} (hs : a.eval s = v) {n : Nat} {vs : List Value} (hown : w.ownsRow 0 e sz v n vs)
  {ad : Addr} {m c : Nat} (hx : a.eval x = .slice (some ad) m c) {us : List Value} (hnews : ∀ j u, us[j]? = some u → w.cell? (ad.add j) = some u) (hl : us.length = m * sz) (h1 : ∀ u ∈ us, u.oneCell' = true)
  (h63 : n + m ≤ maxLen) (hbytes : (n + m) * by_ ≤ 140737488355328)
  (h : ∀ v' w', w'.ownsRow 0 e sz v' (n + m) (vs ++ us) → w.grownBy w' v.ownBlock → (v'.ownBlock = v.ownBlock ∨ v'.ownBlock = some w.heap.size) → wpList Pg ops Q rest (a.put o.dst v') w') :
  wpList Pg ops Q (o :: rest) a w := by
 obtain ⟨i, h2, h3, h4, h5⟩ := info_parts hi
 subst h4
 subst h5
 refine wpList_plain hgd fun K hK => ?_
 obtain ⟨v', w', hr, k1, k2, _, k4⟩ := run_append_own_at (P := Pg) w 0 t o.type e i z i.size i.bytes ht h2 h3 rfl rfl hzs hsz v n vs hown ad m c us hl hnews h1 h63 hbytes (Nat.zero_le _)
 unfold Oper.wp execOp
 simp only [ho, resolve, invoke, builtin, Sem.run_bind, Sem.run_pure, Result.andThen_ok, List.map_toArray, List.map_cons, List.map_nil, hs, hx, hr]
 exact hK _ _ (h v' w' k1 k2 k4)
end
/-- a row of the call's own, with these cells -/
def RowV (w w' : World) (e sz n : Nat) (vs : List Value) (v : Value) : Prop := w'.ownsRow 0 e sz v n vs ∧ ∀ k, v.ownBlock = some k → w.heap.size ≤ k
theorem strC_flat (xs : List ByteArray) : ∀ t ∈ xs.flatMap strC, t.flat = true := fun t ht => by obtain ⟨x, _, hx⟩ := List.mem_flatMap.1 ht; simp [strC] at hx; subst hx; rfl
set_option maxRecDepth 100000 in
set_option maxHeartbeats 1000000 in
theorem CloneStr_calls {t : Nat} (xs : List ByteArray) (v : Value) (w : World) (h : rep w (strsT t xs) v) (hn : xs.length * 16 ≤ 140737488355328) :
  Calls Tryz.prog 146 #[v] w (MadeV w (strsT 9 xs)) := by
 have h0 := Asd.mk h
 simp only [strsT, CasesT, tl, rep] at h
 obtain ⟨hl, h1, A, c, vs, rfl, hc, hr, hcl⟩ := h
 cases A with
 | none =>
  obtain rfl : xs = [] := by
   cases xs with
   | nil => rfl
   | cons x xs => obtain ⟨a, ha, _⟩ := hcl (by simp); cases ha
  have he : ∀ w : World, (binOp .eql 25 (.slice none 0 c) (.slice none 0 0)).run Tryz.prog w = .ok (.bool true) w := fun _ => rfl
  go_enter Tryz.func146, Tryz.ntmps146
  go_wp2
  go_ret
  exact ⟨_, rfl, ⟨[], own_nil _ _ _, List.nodup_nil, fun k hk => by cases hk⟩, Below.refl _ _⟩
 | some a =>
  have he : ∀ w : World, (binOp .eql 25 (.slice (some a) xs.length c) (.slice none 0 0)).run Tryz.prog w = .ok (.bool false) w := fun _ => rfl
  have hvs : vs.length = xs.length * 1 := by rw [reps_length hr, hl]
  have hbel : Below w.heap.size w (w.alloc (.cells #[] 9)) := below_al (Below.refl _ _) _
  have hu := owns_flat_of_reps (reps_below hbel _ _ hr) (strC_flat xs)
  have how := own_empty w 9 1
  have hcl' : ∀ j u, 0 < xs.length → vs[j]? = some u → (w.alloc (.cells #[] 9)).cell? (a.add j) = some u := fun j u h0 hj => by
   obtain ⟨a', ha, h⟩ := hcl h0
   cases ha
   exact cell_below hbel (h j u hj)
  clear h0 hr hcl
  go_enter Tryz.func146, Tryz.ntmps146
  go_wp2_with (first | (at_builtin; refine app rfl rfl Tryz.underlying25 info_str rfl (by decide) rfl how rfl (fun h => by cases h) (fun h0 => ⟨a, rfl, fun j u hj => hcl' j u h0 hj⟩) hvs hu (fun k hk hk' => by cases hk') (by simp [maxLen]; omega) (by omega) ?_))
  intro v' w' F2 ho hF hN hg
  have hb : Below w.heap.size w w' := below_gr hbel hg (fun k hk => by simp [Value.ownBlock] at hk; omega)
  replace ho := Asd.mk ho
  replace hg := Asd.mk hg
  go_wp2
  go_ret
  refine ⟨_, rfl, ⟨F2, ?_, ?_, ?_⟩, hb⟩
  ·have := ho.out
   simpa [strsT, CasesT, tl] using this
  ·first | exact hN | exact hN (by simp) (by simp) (by simp)
  ·intro k hk
   have := hF k hk
   (try simp at this)
   omega
end Go.Proofs.YtkpkfihaihoaeaaGreatDoor.M
end
section
set_option linter.unusedVariables false
set_option linter.unusedSimpArgs false
namespace Go.Proofs.YtkpkfihaihoaeaaGreatDoor.M
open Go.RowKit
def Lie (lo : Nat) (w : World) (t : T) (v : Value) : Prop := ∃ F, own w t v F ∧ F.Nodup ∧ ∀ k ∈ F, lo ≤ k
def Lies (lo : Nat) (w : World) (ts : List T) (vs : List Value) : Prop := ∃ F, owns w ts vs F ∧ F.Nodup ∧ ∀ k ∈ F, lo ≤ k
section
variable {lo : Nat} {w w' : World} {t : T} {ts us : List T} {v : Value} {vs xs : List Value}
theorem Made.lie (h : Made w w' t v) : Lie w.heap.size w' t v := h
theorem Mades.lies (h : Mades w w' ts vs) : Lies w.heap.size w' ts vs := h
theorem Lie.made (h : Lie w.heap.size w' t v) : Made w w' t v := h
theorem Lies.mades (h : Lies w.heap.size w' ts vs) : Mades w w' ts vs := h
theorem Lie.mono (h : Lie lo w t v) {l : Nat} (hl : l ≤ lo) : Lie l w t v := by obtain ⟨F, h1, h2, h3⟩ := h; exact ⟨F, h1, h2, fun k hk => Nat.le_trans hl (h3 k hk)⟩
theorem Lies.mono (h : Lies lo w ts vs) {l : Nat} (hl : l ≤ lo) : Lies l w ts vs := by obtain ⟨F, h1, h2, h3⟩ := h; exact ⟨F, h1, h2, fun k hk => Nat.le_trans hl (h3 k hk)⟩
theorem Lie.rep (h : Lie lo w t v) : M.rep w t v := by obtain ⟨F, h1, _⟩ := h; exact h1.rep
theorem Lies.reps (h : Lies lo w ts vs) : M.reps w ts vs := by obtain ⟨F, h1, _⟩ := h; exact h1.rep
theorem Lie.below (h : Lie lo w t v) (hb : Below w.heap.size w w') : Lie lo w' t v := by obtain ⟨F, h1, h2, h3⟩ := h; exact ⟨F, h1.below hb, h2, h3⟩
theorem Lies.below (h : Lies lo w ts vs) (hb : Below w.heap.size w w') : Lies lo w' ts vs := by obtain ⟨F, h1, h2, h3⟩ := h; exact ⟨F, h1.below hb, h2, h3⟩
theorem Lie.set (h : Lie lo w t v) {p : Addr} (hp : p.block < lo) (u : Value) : Lie lo (w.setCell p u) t v := by
 obtain ⟨F, h1, h2, h3⟩ := h; exact ⟨F, h1.set (fun hk => by have := h3 _ hk; omega) u, h2, h3⟩
theorem Lies.set (h : Lies lo w ts vs) {p : Addr} (hp : p.block < lo) (u : Value) : Lies lo (w.setCell p u) ts vs := by
 obtain ⟨F, h1, h2, h3⟩ := h; exact ⟨F, h1.set (fun hk => by have := h3 _ hk; omega) u, h2, h3⟩
theorem Lie.slice {e sz n : Nat} {cells : List T} (h : Lie lo w (.l e sz n cells) v) : ∃ A c, v = .slice A n c ∧ n ≤ c ∧ n ≤ 9223372036854775807 := by obtain ⟨F, h1, _⟩ := h; exact own_slice h1
theorem Lie.nil (lo : Nat) (w : World) (e sz : Nat) : Lie lo w (.l e sz 0 []) (.slice none 0 0) := ⟨[], own_nil _ _ _, List.nodup_nil, fun k hk => by cases hk⟩
theorem Lies.flat {W : World} (h : M.reps W ts vs) (hf : ∀ t ∈ ts, t.flat = true) (lo : Nat) (hb : Below W.heap.size W w) : Lies lo w ts vs := ⟨[], owns_flat_of_reps (h.below hb) hf, List.nodup_nil, fun k hk => by cases hk⟩
theorem below_lo {W : World} {lo : Nat} (hlo : lo ≤ W.heap.size) {row : Option Nat} (hg : W.grownBy w' row) (hr : ∀ k, row = some k → lo ≤ k) : Below lo W w' :=
 ⟨hg.os, hg.tape, hg.output, hg.size, fun k hk => hg.block k (Nat.lt_of_lt_of_le hk hlo) (fun e => absurd (hr k e.symm) (by omega))⟩
end
theorem heap_new_set (w : World) (p : Addr) (u : Value) (o : Obj) : ((w.setCell p u).alloc o).heap[w.heap.size]? = some o := by simpa using heap_alloc_new (w.setCell p u) o
/-- the first elements -/
def tkTo {α : Type} (xs : List α) (k : Nat) : List α := xs.take k
theorem tkTo_zero {α : Type} (xs : List α) : tkTo xs 0 = [] := by simp [tkTo]
theorem tkTo_succ {α : Type} {xs : List α} {k : Nat} (h : k < xs.length) : tkTo xs (k + 1) = tkTo xs k ++ [xs[k]] := List.take_succ_eq_append_getElem h
theorem tkTo_end {α : Type} (xs : List α) : tkTo xs xs.length = xs := by simp [tkTo]
theorem tkTo_len {α : Type} (xs : List α) (k : Nat) : (tkTo xs k).length ≤ k := List.length_take_le _ _
/-- nothing has turned but blocks from lo to hi, and new ones -/
structure Far (lo hi : Nat) (w w' : World) : Prop where
 os : w'.os = w.os
 tape : w'.tape = w.tape
 output : w'.output = w.output
 size : w.heap.size ≤ w'.heap.size
 block : ∀ b, b < w.heap.size → (b < lo ∨ hi ≤ b) → w'.heap[b]? = w.heap[b]?
theorem Far.cell {lo hi : Nat} {w w' : World} (h : Far lo hi w w') {b o : Nat} (hb : b < w.heap.size) (hl : b < lo ∨ hi ≤ b) : w'.cell? ⟨b, o, none⟩ = w.cell? ⟨b, o, none⟩ := World.cell?_of_block (h.block b hb hl)
theorem Far.frozen {lo hi : Nat} {w w' : World} (h : Far lo hi w w') {b o : Nat} (hb : b < w.heap.size) (hl : b < lo ∨ hi ≤ b) : w'.frozen? ⟨b, o, none⟩ = w.frozen? ⟨b, o, none⟩ := World.frozen?_of_block (h.block b hb hl)
theorem Far.below {lo hi : Nat} {w w' : World} (h : Far lo hi w w') (hl : lo ≤ w.heap.size) : Below lo w w' := ⟨h.os, h.tape, h.output, h.size, fun k hk => h.block k (by omega) (.inl hk)⟩
theorem Far.trans {B lo hi : Nat} {w W w' : World} (hb : Below B w W) (h : Far lo hi W w') (hB : B ≤ lo) (hW : B ≤ W.heap.size) : Below B w w' := ⟨h.os.trans hb.os, h.tape.trans hb.tape, h.output.trans hb.output, Nat.le_trans hb.size h.size, fun k hk => (h.block k (by omega) (.inl (by omega))).trans (hb.block k hk)⟩
section
variable {Pg : Program} {w wr : World} {lo : Nat}
theorem run_appL (t ty : TypeId) {e sz by_ : Nat} {z : Value} (ht : Pg.underlying t = some (.slice e))
  (hi : (Pg.info? e).map (fun i => (i.zero, i.size, i.bytes)) = some (some z, sz, by_)) (hzs : z.cells.size = sz) (hsz : 0 < sz) {v : Value} {n : Nat} {cells : List T}
  (hlo : lo ≤ wr.heap.size) (hown : Lie lo wr (.l e sz n cells) v) (hb : Below wr.heap.size wr w)
  {A : Option Addr} {m c : Nat} {ts : List T} {us : List Value} (hcell : 0 < m → ∃ ad, A = some ad ∧ ∀ j u, us[j]? = some u → w.cell? (ad.add j) = some u) (hl : us.length = m * sz) (hu : Lies wr.heap.size w ts us)
  (h63 : n + m ≤ maxLen) (hbytes : (n + m) * by_ ≤ 140737488355328) :
  ∃ v' w', (Builtin.append_ #[t, t] ty #[v, .slice A m c]).run Pg w = .ok v' w' ∧ Lie lo w' (.l e sz (n + m) (cells ++ ts)) v' ∧ Far lo wr.heap.size w w' := by
 obtain ⟨i0, g2, g3, g4, g5⟩ := info_parts hi
 cases A with
 | none =>
  have hm0 : m = 0 := by
   rcases Nat.eq_zero_or_pos m with h | h
   ·exact h
   ·obtain ⟨ad, h, _⟩ := hcell h
    cases h
  subst hm0
  have hu0 : us = [] := List.eq_nil_of_length_eq_zero (by simpa using hl)
  subst hu0
  have hts : ts = [] := by
   obtain ⟨F', o2, _, _⟩ := hu
   exact List.eq_nil_of_length_eq_zero (by rw [← owns_length o2]; rfl)
  subst hts
  obtain ⟨A1, c1, rfl, hc1, _⟩ := hown.slice
  exact ⟨_, w, run_append_nothing (P := Pg) w t t ty e i0 ht g2 A1 n c1 hc1 _ (Src.ofNil w ht c), by simpa using hown.below hb, ⟨rfl, rfl, rfl, Nat.le_refl _, fun _ _ _ => rfl⟩⟩
 | some ad0 =>
 have hx0 : (some ad0 : Option Addr) = none → c = 0 := fun h => by cases h
 obtain ⟨F, o1, n1, l1⟩ := hown
 obtain ⟨F', o2, n2, l2⟩ := hu
 have hlt := o1.lt
 obtain ⟨v', w', F2, hr, k1, k2, k3, _, row, k4, k5⟩ := run_app (P := Pg) (w := w) t ty ht hi hzs hsz (o1.below hb) hx0 hcell hl o2 (fun k _ hk hk' => by have := l2 k hk'; have := hlt k hk; omega) h63 hbytes
 refine ⟨v', w', hr, ⟨F2, k1, k3 n1 n2 (fun k hk hk' => by have := l2 k hk; have := hlt k hk'; omega), fun k hk => ?_⟩, ⟨k4.os, k4.tape, k4.output, k4.size, fun b hb hl => k4.block b hb (fun e => by have h1 := l1 b (k5 b e.symm); have h2 := hlt b (k5 b e.symm); omega)⟩⟩
 rcases k2 k hk with h | h | h
 ·exact l1 k h
 ·exact Nat.le_trans hlo (l2 k h)
 ·rw [h]; exact Nat.le_trans hlo hb.size
/-- append in a plain region -/
theorem appL {ops : Array Oper} {rest : List Oper} {o : Oper} {a : Act} {Q : Exit → Act → World → Prop} (hgd : o.guard = none) {s x : Operand} {t : TypeId} (ho : o.op = .call { callee := .builtin .append, args := #[s, x], argTypes := #[t, t] }) {e sz by_ : Nat} {z : Value} (ht : Pg.underlying t = some (.slice e))
  (hi : (Pg.info? e).map (fun i => (i.zero, i.size, i.bytes)) = some (some z, sz, by_)) (hzs : z.cells.size = sz) (hsz : 0 < sz) {v : Value} (hs : a.eval s = v) {n : Nat} {cells : List T}
  (hlo : lo ≤ wr.heap.size) (hown : Lie lo wr (.l e sz n cells) v) (hb : Below wr.heap.size wr w)
  {A : Option Addr} {m c : Nat} (hx : a.eval x = .slice A m c) {ts : List T} {us : List Value} (hcell : 0 < m → ∃ ad, A = some ad ∧ ∀ j u, us[j]? = some u → w.cell? (ad.add j) = some u) (hl : us.length = m * sz) (hu : Lies wr.heap.size w ts us)
  (h63 : n + m ≤ maxLen) (hbytes : (n + m) * by_ ≤ 140737488355328)
  (h : ∀ v' w', Lie lo w' (.l e sz (n + m) (cells ++ ts)) v' → Far lo wr.heap.size w w' → wpList Pg ops Q rest (a.put o.dst v') w') :
  wpList Pg ops Q (o :: rest) a w := by
 refine wpList_plain hgd fun K hK => ?_
 obtain ⟨v', w', hr, h2, h3⟩ := run_appL (Pg := Pg) (w := w) (wr := wr) (c := c) t o.type ht hi hzs hsz hlo hown hb hcell hl hu h63 hbytes
 unfold Oper.wp execOp
 simp only [ho, resolve, invoke, builtin, Sem.run_bind, Sem.run_pure, Result.andThen_ok, List.map_toArray, List.map_cons, List.map_nil, hs, hx, hr]
 exact hK _ _ (h v' w' h2 h3)
/-- append onto an empty list -/
theorem appE {ops : Array Oper} {rest : List Oper} {o : Oper} {a : Act} {Q : Exit → Act → World → Prop} (hgd : o.guard = none) {s x : Operand} {t : TypeId} (ho : o.op = .call { callee := .builtin .append, args := #[s, x], argTypes := #[t, t] }) {e sz by_ : Nat} {z : Value} (ht : Pg.underlying t = some (.slice e))
  (hi : (Pg.info? e).map (fun i => (i.zero, i.size, i.bytes)) = some (some z, sz, by_)) (hzs : z.cells.size = sz) (hsz : 0 < sz) {v : Value} (hs : a.eval s = v) 
  (hlo : lo ≤ wr.heap.size) (hown : Lie lo wr (.l e sz 0 []) v) (hb : Below wr.heap.size wr w)
  {A : Option Addr} {m c : Nat} (hx : a.eval x = .slice A m c) {ts : List T} {us : List Value} (hcell : 0 < m → ∃ ad, A = some ad ∧ ∀ j u, us[j]? = some u → w.cell? (ad.add j) = some u) (hl : us.length = m * sz) (hu : Lies wr.heap.size w ts us)
  (h63 : m ≤ maxLen) (hbytes : m * by_ ≤ 140737488355328)
  (h : ∀ v' w', Lie lo w' (.l e sz m ts) v' → Far lo wr.heap.size w w' → wpList Pg ops Q rest (a.put o.dst v') w') :
  wpList Pg ops Q (o :: rest) a w := by
 refine appL hgd ho ht hi hzs hsz hs hlo hown hb hx hcell hl hu (by simpa using h63) (by simpa using hbytes) fun v' w' h1 h2 => h v' w' ?_ h2
 simpa using h1
/-- append as a step of a region that draws its order -/
theorem step_appL {ops : Array Oper} {o : Oper} {a : Act} {K : Act → World → Prop} {Q : Exit → Act → World → Prop} {E : Prop} (hgd : o.guard = none) {s x : Operand} {t : TypeId} (ho : o.op = .call { callee := .builtin .append, args := #[s, x], argTypes := #[t, t] }) {e sz by_ : Nat} {z : Value} (ht : Pg.underlying t = some (.slice e))
  (hi : (Pg.info? e).map (fun i => (i.zero, i.size, i.bytes)) = some (some z, sz, by_)) (hzs : z.cells.size = sz) (hsz : 0 < sz) {v : Value} (hs : a.eval s = v) {n : Nat} {cells : List T}
  (hlo : lo ≤ wr.heap.size) (hown : Lie lo wr (.l e sz n cells) v) (hb : Below wr.heap.size wr w)
  {A : Option Addr} {m c : Nat} (hx : a.eval x = .slice A m c) {ts : List T} {us : List Value} (hcell : 0 < m → ∃ ad, A = some ad ∧ ∀ j u, us[j]? = some u → w.cell? (ad.add j) = some u) (hl : us.length = m * sz) (hu : Lies wr.heap.size w ts us)
  (h63 : n + m ≤ maxLen) (hbytes : (n + m) * by_ ≤ 140737488355328)
  (h : ∀ v' w', Lie lo w' (.l e sz (n + m) (cells ++ ts)) v' → Far lo wr.heap.size w w' → K (a.put o.dst v') w') :
  if Region.wanted o (yielded ops a.tmps) = true then Oper.wp Pg o a w K Q else E := by
 have hw : Region.wanted o (yielded ops a.tmps) = true := by simp [Region.wanted, hgd]
 rw [if_pos hw]
 obtain ⟨v', w', hr, h2, h3⟩ := run_appL (Pg := Pg) (w := w) (wr := wr) (c := c) t o.type ht hi hzs hsz hlo hown hb hcell hl hu h63 hbytes
 unfold Oper.wp execOp
 simp only [ho, resolve, invoke, builtin, Sem.run_bind, Sem.run_pure, Result.andThen_ok, List.map_toArray, List.map_cons, List.map_nil, hs, hx, hr]
 exact h v' w' h2 h3
/-- the one element that 'append(xs, e)' lays into a block of its own first -/
theorem one_cells {w : World} {B : Nat} {cs : Array Value} {t : TypeId} {fr : Nat × Nat} (hb : w.heap[B]? = some (.cells cs t fr)) : 0 < 1 → ∃ ad, (some ⟨B, 0, none⟩ : Option Addr) = some ad ∧ ∀ j u, cs.toList[j]? = some u → w.cell? (ad.add j) = some u := fun _ => ⟨_, rfl, World.news_of_block hb⟩
end
end Go.Proofs.YtkpkfihaihoaeaaGreatDoor.M
end
section
set_option linter.unusedVariables false
set_option linter.unusedSimpArgs false
namespace Go.Proofs.YtkpkfihaihoaeaaGreatDoor.M
open Go.RowKit
theorem strsT_snoc (t : Nat) (xs : List ByteArray) (q : ByteArray) : strsT t (xs ++ [q]) = .l t 1 (xs.length + 1) (xs.flatMap strC ++ strC q) := by
 unfold strsT tl; rw [List.length_append, List.flatMap_append]; simp
theorem strsT_append (t : Nat) (xs ys : List ByteArray) : strsT t (xs ++ ys) = .l t 1 (xs.length + ys.length) (xs.flatMap strC ++ ys.flatMap strC) := by
 unfold strsT tl; rw [List.length_append, List.flatMap_append]
theorem Lies.str (lo : Nat) (w : World) (q : ByteArray) : Lies lo w (strC q) [.string q] := ⟨[], strC_own w q, List.nodup_nil, fun k hk => by cases hk⟩
section
variable {w wr : World} {lo : Nat} {ops : Array Oper} {rest : List Oper} {o : Oper} {a : Act} {Q : Exit → Act → World → Prop} {xs : List ByteArray} {q : ByteArray} {v : Value}
theorem appStr (hgd : o.guard = none) {s x : Operand} (ho : o.op = .call { callee := .builtin .append, args := #[s, x], argTypes := #[25, 25] }) (hs : a.eval s = v) (hlo : lo ≤ wr.heap.size) (hown : Lie lo wr (strsT 9 xs) v) (hb : Below wr.heap.size wr w)
  {B : Nat} (hx : a.eval x = .slice (some ⟨B, 0, none⟩) 1 1) {ty : TypeId} {fr : Nat × Nat} (hB : w.heap[B]? = some (.cells #[.string q] ty fr)) (hn : xs.length ≤ 1000000)
  (h : ∀ v' w', Lie lo w' (strsT 9 (xs ++ [q])) v' → Far lo wr.heap.size w w' → wpList Tryz.prog ops Q rest (a.put o.dst v') w') : wpList Tryz.prog ops Q (o :: rest) a w :=
 appL hgd ho Tryz.underlying25 info_str rfl (by decide) hs hlo hown hb hx (one_cells hB) rfl (Lies.str _ _ _) (by simp [maxLen]; omega) (by omega) (fun v' w' h1 h2 => h v' w' (by rw [strsT_snoc]; exact h1) h2)
theorem step_appStr {K : Act → World → Prop} {E : Prop} (hgd : o.guard = none) {s x : Operand} (ho : o.op = .call { callee := .builtin .append, args := #[s, x], argTypes := #[25, 25] }) (hs : a.eval s = v) (hlo : lo ≤ wr.heap.size) (hown : Lie lo wr (strsT 9 xs) v) (hb : Below wr.heap.size wr w)
  {B : Nat} (hx : a.eval x = .slice (some ⟨B, 0, none⟩) 1 1) {ty : TypeId} {fr : Nat × Nat} (hB : w.heap[B]? = some (.cells #[.string q] ty fr)) (hn : xs.length ≤ 1000000)
  (h : ∀ v' w', Lie lo w' (strsT 9 (xs ++ [q])) v' → Far lo wr.heap.size w w' → K (a.put o.dst v') w') : if Region.wanted o (yielded ops a.tmps) = true then Oper.wp Tryz.prog o a w K Q else E :=
 step_appL hgd ho Tryz.underlying25 info_str rfl (by decide) hs hlo hown hb hx (one_cells hB) rfl (Lies.str _ _ _) (by simp [maxLen]; omega) (by omega) (fun v' w' h1 h2 => h v' w' (by rw [strsT_snoc]; exact h1) h2)
end
/-- the cells of texts that read -/
theorem strs_cells {t : Nat} {w : World} {ys : List ByteArray} {A : Option Addr} {c : Nat} (h : rep w (strsT t ys) (.slice A ys.length c)) : (0 < ys.length → ∃ ad, A = some ad ∧ ∀ j u, (ys.map Value.string)[j]? = some u → w.cell? (ad.add j) = some u) ∧ reps w (ys.flatMap strC) (ys.map Value.string) := by
 simp only [strsT, tl, rep] at h
 obtain ⟨_, _, A', c', vs, he, _, hr, hcl⟩ := h
 cases he
 have : ∀ {ys : List ByteArray} {vs : List Value}, reps w (ys.flatMap strC) vs → vs = ys.map Value.string := by
  intro ys
  induction ys with
  | nil => intro vs h; simp only [List.flatMap_nil, M.reps] at h; simpa using h
  | cons y ys ih =>
   intro vs h
   simp only [List.flatMap_cons, strC, List.singleton_append, M.reps, M.rep] at h
   obtain ⟨v, us, rfl, rfl, h2⟩ := h
   rw [ih h2]; rfl
 have e := this hr
 subst e
 exact ⟨fun h0 => hcl h0, hr⟩
section
variable {w wr : World} {lo : Nat} {ops : Array Oper} {rest : List Oper} {o : Oper} {a : Act} {Q : Exit → Act → World → Prop} {xs ys : List ByteArray} {v : Value}
/-- append(xs, ys...) -/
theorem appStrs (hgd : o.guard = none) {s x : Operand} (ho : o.op = .call { callee := .builtin .append, args := #[s, x], argTypes := #[25, 25] }) (hs : a.eval s = v) (hlo : lo ≤ wr.heap.size) (hown : Lie lo wr (strsT 9 xs) v) (hb : Below wr.heap.size wr w)
  {A : Option Addr} {c t : Nat} (hx : a.eval x = .slice A ys.length c) (hy : rep w (strsT t ys) (.slice A ys.length c)) (hn : xs.length + ys.length ≤ 1000000)
  (h : ∀ v' w', Lie lo w' (strsT 9 (xs ++ ys)) v' → Far lo wr.heap.size w w' → wpList Tryz.prog ops Q rest (a.put o.dst v') w') : wpList Tryz.prog ops Q (o :: rest) a w := by
 obtain ⟨h1, h2⟩ := strs_cells hy
 exact appL hgd ho Tryz.underlying25 info_str rfl (by decide) hs hlo hown hb hx h1 (by simp) (Lies.flat h2 (strC_flat _) _ (Below.refl _ _)) (by simp [maxLen]; omega) (by omega) (fun v' w' h1 h2 => h v' w' (by rw [strsT_append]; exact h1) h2)
end
section
variable {Pg : Program} {w : World} {ops : Array Oper} {rest : List Oper} {o : Oper} {a : Act} {Q : Exit → Act → World → Prop} {b r : Nat} {C L : List (ByteArray × Value)}
theorem wpMapNext0 (hg : o.guard = none) {it : Operand} (hop : o.op = Op.next it false) (hit : a.eval it = .pointer (some ⟨r, 0, none⟩)) (h : ItAt w b r C []) (hbr : b ≠ r) (hDone : wpList Pg ops Q rest (a.put o.dst (.tuple #[.bool false])) w) : wpList Pg ops Q (o :: rest) a w :=
 wpMapNext hg hop hit h hbr (fun _ => hDone) (fun p w' hp _ _ _ => by cases hp)
theorem wpMapNext1 (hg : o.guard = none) {it : Operand} (hop : o.op = Op.next it false) (hit : a.eval it = .pointer (some ⟨r, 0, none⟩)) (h : ItAt w b r C L) (hbr : b ≠ r) (hL : L ≠ [])
  (hMore : ∀ (p : ByteArray × Value) (w' : World), p ∈ L → ItAt w' b r C (delC L p.1) → OnlyB r w w' → (Instr.entry (.pointer (some ⟨r, 0, none⟩))).run Pg w' = .ok (.tuple #[.string p.1, p.2]) w' → wpList Pg ops Q rest (a.put o.dst (.tuple #[.bool true, .string p.1, p.2])) w') :
  wpList Pg ops Q (o :: rest) a w :=
 wpMapNext hg hop hit h hbr (fun h0 => absurd h0 hL) hMore
theorem ItAt.left (h : ItAt w b r C L) : w.rangeLeft b r = L.length := by
 obtain ⟨es, clock, since, seen, c0, h1, h2, h3, h4, h5, h6, h7, h8⟩ := h
 unfold World.rangeLeft
 rw [h1, h4]
 have := congrArg List.length h8
 simpa using this
end
theorem delC_len {L : List (ByteArray × Value)} {p : ByteArray × Value} (hp : p ∈ L) : (delC L p.1).length < L.length := by
 unfold delC
 exact List.length_filter_lt_length_iff_exists.2 ⟨p, hp, by simp⟩
theorem OnlyB.far {b : Nat} {w w' : World} (h : OnlyB b w w') : Far b (b + 1) w w' := ⟨h.os, h.tape, h.output, Nat.le_of_eq h.size.symm, fun k _ ho => h.block k (by omega)⟩
theorem Lie.far {lo a b : Nat} {w w' : World} {t : T} {v : Value} (h : Lie lo w t v) (hf : Far a b w w') (hb : b ≤ lo) : Lie lo w' t v := by
 obtain ⟨F, h1, h2, h3⟩ := h
 exact ⟨F, h1.move fun k hk => hf.block k (h1.lt k hk) (.inr (Nat.le_trans hb (h3 k hk))), h2, h3⟩
/-- append([]string{}, ys...) -/
theorem appNew {X w : World} {ops : Array Oper} {rest : List Oper} {o : Oper} {a : Act} {Q : Exit → Act → World → Prop} {ys : List ByteArray} (hgd : o.guard = none) {s x : Operand} (ho : o.op = .call { callee := .builtin .append, args := #[s, x], argTypes := #[25, 25] }) (hs : a.eval s = .slice (some ⟨X.heap.size, 0, none⟩) 0 0) (hw : w = X.alloc (.cells #[] 9))
  {A : Option Addr} {c t : Nat} (hx : a.eval x = .slice A ys.length c) (hy : rep X (strsT t ys) (.slice A ys.length c)) (hn : ys.length ≤ 1000000)
  (h : ∀ v' w', Lie X.heap.size w' (strsT 9 ys) v' → Below X.heap.size X w' → X.heap.size < w'.heap.size → wpList Tryz.prog ops Q rest (a.put o.dst v') w') : wpList Tryz.prog ops Q (o :: rest) a w := by
 subst hw
 have hb : Below X.heap.size X (X.alloc (.cells #[] 9)) := below_al (Below.refl _ _) _
 have hE : Lie X.heap.size (X.alloc (.cells #[] 9)) (strsT 9 []) (.slice (some ⟨X.heap.size, 0, none⟩) 0 0) := ⟨[X.heap.size], own_empty X 9 1, by simp, by simp⟩
 refine appStrs hgd ho hs (xs := []) (by simp) hE (Below.refl _ _) hx (hy.below hb) (by simpa using hn) (fun v' w' h1 h2 => h v' w' (by simpa using h1) ?_ ?_)
 ·exact Far.trans hb h2 (Nat.le_refl _) (by simp)
 ·have := h2.size; simp at this; omega
end Go.Proofs.YtkpkfihaihoaeaaGreatDoor.M
end
section
set_option linter.unusedVariables false
set_option linter.unusedSimpArgs false
namespace Go.Proofs.YtkpkfihaihoaeaaGreatDoor.M
open Go.RowKit
def RowSt (lo : Nat) (w : World) (e sz n : Nat) (vs : List Value) (v : Value) : Prop := w.ownsRow 0 e sz v n vs ∧ ∀ k, v.ownBlock = some k → lo ≤ k
theorem RowSt.slice {lo : Nat} {w : World} {e sz n : Nat} {vs : List Value} {v : Value} (h : RowSt lo w e sz n vs v) : ∃ A c, v = .slice A n c ∧ n ≤ c := by
 rcases h.1.2 with ⟨rfl, h0⟩ | ⟨g, cap, cur, rfl, _, _, h1, _⟩
 ·exact ⟨none, 0, by rw [h0], by omega⟩
 ·exact ⟨_, cap, rfl, h1⟩
theorem RowSt.nil (lo : Nat) (w : World) (e sz : Nat) : RowSt lo w e sz 0 [] (.slice none 0 0) := ⟨w.ownsRow_nil 0 e sz, fun k hk => by cases hk⟩
theorem RowSt.below {lo : Nat} {w w' : World} {e sz n : Nat} {vs : List Value} {v : Value} (h : RowSt lo w e sz n vs v) (hb : Below w.heap.size w w') : RowSt lo w' e sz n vs v :=
 ⟨ownsRow_move h.1 (fun k hk => hb.block k (h.1.lt k hk).2), h.2⟩
theorem RowSt.set {lo : Nat} {w : World} {e sz n : Nat} {vs : List Value} {v : Value} (h : RowSt lo w e sz n vs v) {p : Addr} (hp : p.block < lo) (u : Value) : RowSt lo (w.setCell p u) e sz n vs v :=
 ⟨ownsRow_move h.1 (fun k hk => Below.heap_setCell w p u k (fun e => by have := h.2 k hk; omega)), h.2⟩
section
variable {Pg : Program} {w wr : World} {lo : Nat}
theorem run_appRow (t ty : TypeId) {e sz by_ : Nat} {z : Value} (ht : Pg.underlying t = some (.slice e))
  (hi : (Pg.info? e).map (fun i => (i.zero, i.size, i.bytes)) = some (some z, sz, by_)) (hzs : z.cells.size = sz) (hsz : 0 < sz) {v : Value} {n : Nat} {vs : List Value}
  (hlo : lo ≤ wr.heap.size) (hown : RowSt lo wr e sz n vs v) (hb : Below wr.heap.size wr w)
  {ad : Addr} {m c : Nat} {us : List Value} (hnews : ∀ j u, us[j]? = some u → w.cell? (ad.add j) = some u) (hl : us.length = m * sz) (h1 : ∀ u ∈ us, u.oneCell' = true)
  (h63 : n + m ≤ maxLen) (hbytes : (n + m) * by_ ≤ 140737488355328) :
  ∃ v' w', (Builtin.append_ #[t, t] ty #[v, .slice (some ad) m c]).run Pg w = .ok v' w' ∧ RowSt lo w' e sz (n + m) (vs ++ us) v' ∧ Far lo wr.heap.size w w' := by
 obtain ⟨i, g2, g3, g4, g5⟩ := info_parts hi
 subst g4
 subst g5
 have hlt := hown.1.lt
 obtain ⟨v', w', hr, k1, k2, _, k4⟩ := run_append_own_at (P := Pg) w 0 t ty e i z i.size i.bytes ht g2 g3 rfl rfl hzs hsz v n vs (hown.below hb).1 ad m c us hl hnews h1 h63 hbytes (Nat.zero_le _)
 have hz := hb.size
 refine ⟨v', w', hr, ⟨k1, fun k hk => ?_⟩, ⟨k2.os, k2.tape, k2.output, k2.size, fun b hb' hl' => k2.block b hb' (fun e => ?_)⟩⟩
 ·rcases k4 with h | h
  ·rw [h] at hk; exact hown.2 k hk
  ·rw [h] at hk; cases hk; omega
 ·have a1 := hown.2 b e.symm
  have a2 := (hlt b e.symm).2
  omega
theorem appRow {ops : Array Oper} {rest : List Oper} {o : Oper} {a : Act} {Q : Exit → Act → World → Prop} (hgd : o.guard = none) {s x : Operand} {t : TypeId} (ho : o.op = .call { callee := .builtin .append, args := #[s, x], argTypes := #[t, t] }) {e sz by_ : Nat} {z : Value} (ht : Pg.underlying t = some (.slice e))
  (hi : (Pg.info? e).map (fun i => (i.zero, i.size, i.bytes)) = some (some z, sz, by_)) (hzs : z.cells.size = sz) (hsz : 0 < sz) {v : Value} (hs : a.eval s = v) {n : Nat} {vs : List Value}
  (hlo : lo ≤ wr.heap.size) (hown : RowSt lo wr e sz n vs v) (hb : Below wr.heap.size wr w)
  {ad : Addr} {m c : Nat} (hx : a.eval x = .slice (some ad) m c) {us : List Value} (hnews : ∀ j u, us[j]? = some u → w.cell? (ad.add j) = some u) (hl : us.length = m * sz) (h1 : ∀ u ∈ us, u.oneCell' = true)
  (h63 : n + m ≤ maxLen) (hbytes : (n + m) * by_ ≤ 140737488355328)
  (h : ∀ v' w', RowSt lo w' e sz (n + m) (vs ++ us) v' → Far lo wr.heap.size w w' → wpList Pg ops Q rest (a.put o.dst v') w') :
  wpList Pg ops Q (o :: rest) a w := by
 refine wpList_plain hgd fun K hK => ?_
 obtain ⟨v', w', hr, h2, h3⟩ := run_appRow (Pg := Pg) (w := w) (wr := wr) (c := c) t o.type ht hi hzs hsz hlo hown hb hnews hl h1 h63 hbytes
 unfold Oper.wp execOp
 simp only [ho, resolve, invoke, builtin, Sem.run_bind, Sem.run_pure, Result.andThen_ok, List.map_toArray, List.map_cons, List.map_nil, hs, hx, hr]
 exact hK _ _ (h v' w' h2 h3)
theorem step_appRow {ops : Array Oper} {o : Oper} {a : Act} {K : Act → World → Prop} {Q : Exit → Act → World → Prop} {E : Prop} (hgd : o.guard = none) {s x : Operand} {t : TypeId} (ho : o.op = .call { callee := .builtin .append, args := #[s, x], argTypes := #[t, t] }) {e sz by_ : Nat} {z : Value} (ht : Pg.underlying t = some (.slice e))
  (hi : (Pg.info? e).map (fun i => (i.zero, i.size, i.bytes)) = some (some z, sz, by_)) (hzs : z.cells.size = sz) (hsz : 0 < sz) {v : Value} (hs : a.eval s = v) {n : Nat} {vs : List Value}
  (hlo : lo ≤ wr.heap.size) (hown : RowSt lo wr e sz n vs v) (hb : Below wr.heap.size wr w)
  {ad : Addr} {m c : Nat} (hx : a.eval x = .slice (some ad) m c) {us : List Value} (hnews : ∀ j u, us[j]? = some u → w.cell? (ad.add j) = some u) (hl : us.length = m * sz) (h1 : ∀ u ∈ us, u.oneCell' = true)
  (h63 : n + m ≤ maxLen) (hbytes : (n + m) * by_ ≤ 140737488355328)
  (h : ∀ v' w', RowSt lo w' e sz (n + m) (vs ++ us) v' → Far lo wr.heap.size w w' → K (a.put o.dst v') w') :
  if Region.wanted o (yielded ops a.tmps) = true then Oper.wp Pg o a w K Q else E := by
 have hw : Region.wanted o (yielded ops a.tmps) = true := by simp [Region.wanted, hgd]
 rw [if_pos hw]
 obtain ⟨v', w', hr, h2, h3⟩ := run_appRow (Pg := Pg) (w := w) (wr := wr) (c := c) t o.type ht hi hzs hsz hlo hown hb hnews hl h1 h63 hbytes
 unfold Oper.wp execOp
 simp only [ho, resolve, invoke, builtin, Sem.run_bind, Sem.run_pure, Result.andThen_ok, List.map_toArray, List.map_cons, List.map_nil, hs, hx, hr]
 exact h v' w' h2 h3
end
end Go.Proofs.YtkpkfihaihoaeaaGreatDoor.M
end
section
set_option linter.unusedVariables false
set_option linter.unusedSimpArgs false
namespace Go.Proofs.YtkpkfihaihoaeaaGreatDoor.M
open Go.RowKit
/-- decimal digits ahead of a text -/
def dg : Nat → Nat → List UInt8 → List UInt8
 | 0, _, o => o
 | f + 1, n, o => if n = 0 then o else dg f (n / 10) (UInt8.ofNat (48 + n % 10) :: o)
theorem dg_more : ∀ (f n : Nat) (o : List UInt8), n ≤ f → dg (f + 1) n o = dg f n o
  | 0, n, o, h => by obtain rfl : n = 0 := by omega
                     simp [dg]
  | f + 1, n, o, h => by
    show (if n = 0 then o else dg (f + 1) (n / 10) _) = (if n = 0 then o else dg f (n / 10) _)
    split
    · rfl
    · exact dg_more f (n / 10) _ (by omega)
theorem dg_all (n : Nat) (o : List UInt8) : ∀ (f : Nat), n ≤ f → dg f n o = dg n n o
  | 0, h => by obtain rfl : n = 0 := by omega
               rfl
  | f + 1, h => by
    rcases Nat.lt_or_ge f n with hlt | hge
    · obtain rfl : n = f + 1 := by omega
      rfl
    · rw [dg_more f n o hge, dg_all n o f hge]
theorem dg_step {n : Nat} (o : List UInt8) (h : 0 < n) : dg n n o = dg (n / 10) (n / 10) (UInt8.ofNat (48 + n % 10) :: o) := by
 obtain ⟨m, rfl⟩ : ∃ m, n = m + 1 := ⟨n - 1, by omega⟩
 rw [dg, if_neg (by omega)]
 exact dg_all _ _ _ (by omega)
def mkB (k : Nat) : ByteArray := ⟨(109 :: dg k k []).toArray⟩
set_option maxRecDepth 100000 in
set_option maxHeartbeats 1000000 in
theorem markText_calls (k : Nat) (w : World) (h0 : 1 ≤ k) (hk : k ≤ 1000000000) :
  Calls Tryz.prog 87 #[.int .i64 k] w fun e w' => e = .returned (.string (mkB k)) ∧ Below w.heap.size w w' := by
 have q1 : ¬(k : Int) ≤ 0 := by omega
 go_enter Tryz.func87, Tryz.ntmps87
 go_wp2
 go_loopw [0, 3] (fun n o wr => ∃ (m : Nat) (l : List UInt8), l.length + m ≤ k ∧ n = .int .i64 m ∧ o = .string ⟨l.toArray⟩ ∧ dg m m l = dg k k [] ∧ Below w.heap.size w wr) (fun n _ _ => (intOf n).toNat)
 case atStart => exact ⟨k, [], by simp, rfl, rfl, rfl, Below.refl _ _⟩
 case round =>
  obtain ⟨m, l, hm, rfl, rfl, hd, hb⟩ := hrel
  by_cases hlt : 0 < m
  ·have e1 := Asd.mk ((dg_step l hlt).symm.trans hd)
   clear hd
   have hch : (UInt8.ofNat (48 + m % 10)).toNat = 48 + m % 10 := by simp; omega
   have hcv := run_convert_bytes_back (P := Tryz.prog) (wr.alloc (.cells #[.int .u8 (48 + (m : Int) % 10)] 5)) 181 9 5 ⟨wr.heap.size, 0, none⟩ 1 [UInt8.ofNat (48 + m % 10)] Tryz.underlying181 Tryz.underlying5 Tryz.underlying9 (fun j hj => by
    obtain rfl : j = 0 := by simpa using hj
    rw [show ((⟨wr.heap.size, 0, none⟩ : Addr).add 0) = ⟨wr.heap.size, 0, none⟩ from rfl]
    rw [World.cell?_alloc_at _ _ _ _ (by simp)]
    simp only [List.getElem_cons_zero, hch]
    simp)
   simp only [List.length_cons, List.length_nil, Nat.zero_add] at hcv
   clear hch
   go_wp2
   go_roundw
   case rel =>
    refine ⟨m / 10, UInt8.ofNat (48 + m % 10) :: l, by simp; omega, by go_num, ?_, e1.out, by repeat first|with_reducible (first|exact Below.refl _ _|exact hb|refine below_al ?_ _|refine below_dr ?_ _|refine below_d1 ?_)|(with_reducible refine Below.setCell ?_ ?_ _;rotate_left;next => first|(simp;done)|(simp;omega)|omega)⟩
    congr 1
    refine ByteArray.ext ?_
    simp [ByteArray.data_append, UInt8.ofNat_add]
   case measure => simp [intOf]; omega
  ·have e1 := Asd.mk hd
   have h1 : (m : Int) ≤ 0 := by omega
   clear hd
   go_wp2
   refine bodyPost_ret (v := .string (⟨#[109]⟩ ++ ⟨l.toArray⟩)) (by simp [results, Tryz.results87, go_sem, *]) rfl ?_
   obtain rfl : m = 0 := by omega
   have e2 := e1.out
   refine ⟨?_, hb⟩
   unfold mkB
   rw [← e2]
   rfl
theorem markText_callsI (k : Nat) (n : Int) (w : World) (hn : n = k) (h0 : 1 ≤ k) (hk : k ≤ 1000000000) : Calls Tryz.prog 87 #[.int .i64 n] w fun e w' => e = .returned (.string (mkB k)) ∧ Below w.heap.size w w' := by
 subst hn; exact markText_calls k w h0 hk
/-! ### marked trees -/
mutual
def cnt : T → Nat
 | .i _ _ => 1
 | .b _ => 1
 | .s _ => 1
 | .l _ _ _ cells => cnts cells
def cnts : List T → Nat
 | [] => 0
 | t :: ts => cnt t + cnts ts
end
def m3 (k : Nat) : Bool := (k : Int) % 3 == 0
mutual
def mrk : T → Nat → T
 | .i kd _, k => .i kd k
 | .b _, k => .b (m3 k)
 | .s _, k => .s (mkB k)
 | .l e sz n cells, k => .l e sz n (mrks cells k)
def mrks : List T → Nat → List T
 | [], _ => []
 | t :: ts, k => mrk t k :: mrks ts (k + cnt t)
end
theorem cnts_append : ∀ (a b : List T), cnts (a ++ b) = cnts a + cnts b
 | [], b => by simp [cnts]
 | t :: a, b => by rw [List.cons_append, cnts, cnts, cnts_append a b]; omega
theorem mrks_length : ∀ (a : List T) (k : Nat), (mrks a k).length = a.length
 | [], _ => rfl
 | t :: a, k => by rw [mrks, List.length_cons, List.length_cons, mrks_length a]
theorem mrks_append : ∀ (a b : List T) (k : Nat), mrks (a ++ b) k = mrks a k ++ mrks b (k + cnts a)
 | [], b, k => by simp [mrks, cnts]
 | t :: a, b, k => by
  rw [List.cons_append, mrks, mrks, mrks_append a b, List.cons_append, cnts, Nat.add_assoc]
/-- the first m cells marked -/
def mTo (cells : List T) (m k : Nat) : List T := mrks (cells.take m) k ++ cells.drop m
def kTo (cells : List T) (m k : Nat) : Nat := k + cnts (cells.take m)
theorem mTo_zero (cells : List T) (k : Nat) : mTo cells 0 k = cells := by simp [mTo, mrks]
theorem kTo_zero (cells : List T) (k : Nat) : kTo cells 0 k = k := by simp [kTo, cnts]
theorem mTo_end (cells : List T) (k : Nat) : mTo cells cells.length k = mrks cells k := by simp [mTo]
theorem kTo_end (cells : List T) (k : Nat) : kTo cells cells.length k = k + cnts cells := by simp [kTo]
theorem kTo_succ {cells : List T} {m : Nat} (k : Nat) (h : m < cells.length) : kTo cells (m + 1) k = kTo cells m k + cnt cells[m] := by
 unfold kTo; rw [List.take_succ_eq_append_getElem h, cnts_append]; simp [cnts]; omega
theorem kTo_le {cells : List T} {m : Nat} (k : Nat) (h : m < cells.length) : kTo cells m k + cnt cells[m] ≤ k + cnts cells := by
 rw [← kTo_succ k h]; unfold kTo
 have := cnts_append (cells.take (m + 1)) (cells.drop (m + 1))
 rw [List.take_append_drop] at this
 omega
theorem kTo_ge (cells : List T) (m k : Nat) : k ≤ kTo cells m k := by unfold kTo; omega
theorem mTo_length (cells : List T) (m k : Nat) : (mTo cells m k).length = cells.length := by
 unfold mTo; rw [List.length_append, mrks_length, List.length_take, List.length_drop]; omega
theorem mTo_set {cells : List T} {m : Nat} (k : Nat) (h : m < cells.length) : (mTo cells m k).set m (mrk cells[m] (kTo cells m k)) = mTo cells (m + 1) k := by
 have hl : (mrks (cells.take m) k).length = m := by rw [mrks_length, List.length_take]; omega
 unfold mTo
 rw [List.set_append_right _ _ (by omega), hl, Nat.sub_self, List.drop_eq_getElem_cons h, List.set_cons_zero, List.take_succ_eq_append_getElem h, mrks_append]
 simp [mrks, kTo]
theorem mTo_get {cells : List T} {m : Nat} (k : Nat) (h : m < cells.length) {hm : m < (mTo cells m k).length} : (mTo cells m k)[m] = cells[m] := by
 have hl : (mrks (cells.take m) k).length = m := by rw [mrks_length, List.length_take]; omega
 have e : (mTo cells m k)[m]? = cells[m]? := by
  unfold mTo
  rw [List.getElem?_append_right (by omega), hl, Nat.sub_self, List.getElem?_drop, Nat.add_zero]
 rw [List.getElem?_eq_getElem hm, List.getElem?_eq_getElem h] at e
 exact Option.some.inj e
theorem mrks_get {cells : List T} {m : Nat} (k : Nat) (h : m < cells.length) {hm : m < (mrks cells k).length} : (mrks cells k)[m] = mrk cells[m] (kTo cells m k) := by
 have e : mrks cells k = mrks (cells.take m) k ++ mrks (cells.drop m) (kTo cells m k) := by
  have := mrks_append (cells.take m) (cells.drop m) k
  rw [List.take_append_drop] at this
  exact this
 have hl : (mrks (cells.take m) k).length = m := by rw [mrks_length, List.length_take]; omega
 have e2 : (mrks cells k)[m]? = some (mrk cells[m] (kTo cells m k)) := by
  rw [e, List.getElem?_append_right (by omega), hl, Nat.sub_self, List.drop_eq_getElem_cons h, mrks]
  rfl
 rw [List.getElem?_eq_getElem hm] at e2
 exact Option.some.inj e2
/-- a cell of an element -/
theorem fm_get {α : Type} {enc : α → List T} {sz : Nat} (hf : ∀ x, (enc x).length = sz) {xs : List α} {i q : Nat} (hi : i < xs.length) (hq : q < (enc xs[i]).length) : ∃ h : i * sz + q < (xs.flatMap enc).length, (xs.flatMap enc)[i * sz + q] = (enc xs[i])[q] := by
 have hl : (xs.flatMap enc).length = xs.length * sz := length_flatMap enc sz hf xs
 have hq' : q < sz := by rw [← hf xs[i]]; exact hq
 have h : i * sz + q < (xs.flatMap enc).length := by
  rw [hl]
  calc i * sz + q < i * sz + sz := by omega
   _ = (i + 1) * sz := by rw [Nat.add_mul]; omega
   _ ≤ xs.length * sz := Nat.mul_le_mul_right _ (by omega)
 refine ⟨h, ?_⟩
 have hd := drop_flatMap enc sz hf xs i
 have : (xs.flatMap enc)[i * sz + q]? = (enc xs[i])[q]? := by
  rw [← List.getElem?_drop, hd, List.drop_eq_getElem_cons hi, List.flatMap_cons, List.getElem?_append_left hq]
 rw [List.getElem?_eq_getElem h, List.getElem?_eq_getElem hq] at this
 exact Option.some.inj this
theorem fm_get1 {α : Type} {enc : α → List T} (hf : ∀ x, (enc x).length = 1) {xs : List α} {i : Nat} (hi : i < xs.length) : ∃ h : i < (xs.flatMap enc).length, (xs.flatMap enc)[i] = (enc xs[i])[0]'(by rw [hf]; decide) := by
 obtain ⟨h, e⟩ := fm_get (q := 0) hf hi (by rw [hf]; decide)
 simp only [Nat.mul_one, Nat.add_zero] at h e
 exact ⟨h, e⟩
theorem fm_at {α : Type} {enc : α → List T} {sz : Nat} (hf : ∀ x, (enc x).length = sz) {xs : List α} {i m q : Nat} {t : T} (hi : i < xs.length) (hm : m = i * sz + q) (hq : (enc xs[i])[q]? = some t) : ∃ h : m < (xs.flatMap enc).length, (xs.flatMap enc)[m] = t := by
 subst hm
 obtain ⟨h1, h2⟩ := List.getElem?_eq_some_iff.1 hq
 obtain ⟨h, e⟩ := fm_get hf hi h1
 exact ⟨h, e.trans h2⟩
theorem kTo_elem {α : Type} {enc : α → List T} {sz : Nat} (hf : ∀ x, (enc x).length = sz) {xs : List α} {i : Nat} (k : Nat) (hi : i < xs.length) : kTo (xs.flatMap enc) ((i + 1) * sz) k = kTo (xs.flatMap enc) (i * sz) k + cnts (enc xs[i]) := by
 unfold kTo
 rw [take_flatMap enc sz hf, take_flatMap enc sz hf, List.take_succ_eq_append_getElem hi, List.flatMap_append, cnts_append]
 simp; omega
/-! ### what a marking leaves as it was -/
structure MFr (F : List Nat) (w w' : World) : Prop where
 os : w'.os = w.os
 tape : w'.tape = w.tape
 output : w'.output = w.output
 size : w.heap.size ≤ w'.heap.size
 block : ∀ b, b < w.heap.size → b ∉ F → w'.heap[b]? = w.heap[b]?
theorem MFr.refl (F : List Nat) (w : World) : MFr F w w := ⟨rfl, rfl, rfl, Nat.le_refl _, fun _ _ _ => rfl⟩
theorem MFr.trans {F : List Nat} {w w1 w2 : World} (h : MFr F w w1) (k : MFr F w1 w2) : MFr F w w2 :=
 ⟨k.os.trans h.os, k.tape.trans h.tape, k.output.trans h.output, Nat.le_trans h.size k.size, fun b hb hn => (k.block b (Nat.lt_of_lt_of_le hb h.size) hn).trans (h.block b hb hn)⟩
theorem MFr.mono {F G : List Nat} {w w1 : World} (h : MFr F w w1) (hs : ∀ b ∈ F, b ∈ G) : MFr G w w1 :=
 ⟨h.os, h.tape, h.output, h.size, fun b hb hn => h.block b hb (fun hf => hn (hs b hf))⟩
theorem MFr.of_below {F : List Nat} {w w1 : World} (h : Below w.heap.size w w1) : MFr F w w1 := ⟨h.os, h.tape, h.output, h.size, fun b hb _ => h.block b hb⟩
theorem MFr.of_set {F : List Nat} {w : World} {p : Addr} (u : Value) (hp : p.block ∈ F) : MFr F w (w.setCell p u) := by
 have h : Below 0 w (w.setCell p u) := Below.setCell (Below.refl 0 w) (Nat.zero_le _) u
 exact ⟨h.os, h.tape, h.output, h.size, fun b hb hn => Below.heap_setCell w p u b (fun e => hn (e ▸ hp))⟩
theorem MFr.cell {F : List Nat} {w w1 : World} (h : MFr F w w1) {b o : Nat} (hb : b < w.heap.size) (hn : b ∉ F) : w1.cell? ⟨b, o, none⟩ = w.cell? ⟨b, o, none⟩ := World.cell?_of_block (h.block b hb hn)
theorem MFr.frozen {F : List Nat} {w w1 : World} (h : MFr F w w1) {b o : Nat} (hb : b < w.heap.size) (hn : b ∉ F) : w1.frozen? ⟨b, o, none⟩ = w.frozen? ⟨b, o, none⟩ := World.frozen?_of_block (h.block b hb hn)
theorem MFr.below {F : List Nat} {w w1 : World} {lo : Nat} (h : MFr F w w1) (hl : lo ≤ w.heap.size) (hF : ∀ b ∈ F, lo ≤ b) : Below lo w w1 :=
 ⟨h.os, h.tape, h.output, h.size, fun k hk => h.block k (by omega) (fun hf => by have := hF k hf; omega)⟩
theorem MFr.own {F G : List Nat} {w w1 : World} (h : MFr F w w1) {t : T} {v : Value} (ho : own w t v G) (hd : ∀ b ∈ G, b ∉ F) : M.own w1 t v G := ho.move fun b hb => h.block b (ho.lt b hb) (hd b hb)
theorem MFr.owns {F G : List Nat} {w w1 : World} (h : MFr F w w1) {t : List T} {v : List Value} (ho : owns w t v G) (hd : ∀ b ∈ G, b ∉ F) : M.owns w1 t v G := ho.move fun b hb => h.block b (ho.lt b hb) (hd b hb)
/-- marked -/
def MrkP (t : T) (v : Value) (F : List Nat) (k : Nat) (w : World) (e : Ending) (w' : World) : Prop :=
 e = .returned (.int .i64 ((k + cnt t : Nat) : Int)) ∧ (∃ F', own w' (mrk t k) v F' ∧ F'.Nodup ∧ ∀ b ∈ F', b ∈ F) ∧ MFr F w w'
/-- one cell of a list, with its own blocks, and the way back -/
theorem owns_sub {w : World} : ∀ {ts : List T} {vs : List Value} {F : List Nat} {j : Nat}, owns w ts vs F → (hj : j < ts.length) → F.Nodup → ∃ u Fj, own w ts[j] u Fj ∧ (∀ b ∈ Fj, b ∈ F) ∧ Fj.Nodup ∧ vs[j]? = some u ∧
  ∀ w' t' Fj', own w' t' u Fj' → (∀ b ∈ Fj', b ∈ Fj) → Fj'.Nodup → MFr Fj w w' → ∃ F2, owns w' (ts.set j t') vs F2 ∧ (∀ b ∈ F2, b ∈ F) ∧ F2.Nodup
 | [], _, _, _, _, hj, _ => by simp at hj
 | t :: ts, vs, F, 0, h, hj, hn => by
  simp only [owns] at h
  obtain ⟨v, us, F1, F2, rfl, h1, h2, rfl⟩ := h
  obtain ⟨n1, n2, n3⟩ := List.nodup_append.1 hn
  refine ⟨v, F1, h1, fun b hb => List.mem_append_left _ hb, n1, rfl, fun w' t' Fj' o1 s1 d1 m1 => ⟨Fj' ++ F2, ?_, fun b hb => ?_, ?_⟩⟩
  ·simp only [List.set_cons_zero, owns]
   exact ⟨v, us, Fj', F2, rfl, o1, m1.owns h2 (fun b hb hb' => n3 b hb' b hb rfl), rfl⟩
  ·exact (List.mem_append.1 hb).elim (fun h => List.mem_append_left _ (s1 b h)) (fun h => List.mem_append_right _ h)
  ·exact nod2 d1 n2 (fun a ha hb => n3 a (s1 a ha) a hb rfl)
 | t :: ts, vs, F, j + 1, h, hj, hn => by
  simp only [owns] at h
  obtain ⟨v, us, F1, F2, rfl, h1, h2, rfl⟩ := h
  obtain ⟨n1, n2, n3⟩ := List.nodup_append.1 hn
  obtain ⟨u, Fj, k1, k2, k3, k4, k5⟩ := owns_sub (j := j) h2 (by simpa using hj) n2
  refine ⟨u, Fj, k1, fun b hb => List.mem_append_right _ (k2 b hb), k3, k4, fun w' t' Fj' o1 s1 d1 m1 => ?_⟩
  obtain ⟨F3, r1, r2, r3⟩ := k5 w' t' Fj' o1 s1 d1 m1
  refine ⟨F1 ++ F3, ?_, fun b hb => ?_, nod2 n1 r3 (fun a ha hb => n3 a ha a (r2 a hb) rfl)⟩
  ·simp only [List.set_cons_succ, owns]
   exact ⟨v, us, F1, F3, rfl, m1.own h1 (fun b hb hb' => n3 b hb b (k2 b hb') rfl), r1, rfl⟩
  ·exact (List.mem_append.1 hb).elim (fun h => List.mem_append_left _ h) (fun h => List.mem_append_right _ (r2 b h))
/-- a list under way: its first m cells marked -/
def MS (cells : List T) (e sz n : Nat) (v : Value) (F0 : List Nat) (w0 : World) (k m : Nat) (w : World) : Prop := ∃ F, own w (.l e sz n (mTo cells m k)) v F ∧ F.Nodup ∧ (∀ b ∈ F, b ∈ F0) ∧ MFr F0 w0 w
section
variable {cells : List T} {e sz n c g k m : Nat} {F0 : List Nat} {w0 w w1 : World} {v : Value}
theorem MS.start (h : own w0 (.l e sz n cells) v F0) (hn : F0.Nodup) : MS cells e sz n v F0 w0 k 0 w0 := ⟨F0, by rw [mTo_zero]; exact h, hn, fun _ h => h, MFr.refl _ _⟩
theorem MS.fin (h : MS cells e sz n v F0 w0 k cells.length w) : ∃ F', own w (mrk (.l e sz n cells) k) v F' ∧ F'.Nodup ∧ ∀ b ∈ F', b ∈ F0 := by
 obtain ⟨F, h1, h2, h3, _⟩ := h
 rw [mTo_end] at h1
 exact ⟨F, h1, h2, h3⟩
theorem MS.fin2 (hm : m = cells.length) (h : MS cells e sz n v F0 w0 k m w) : ∃ F', own w (mrk (.l e sz n cells) k) v F' ∧ F'.Nodup ∧ ∀ b ∈ F', b ∈ F0 := by
 subst hm; exact h.fin
theorem MS.fr (h : MS cells e sz n v F0 w0 k m w) : MFr F0 w0 w := by obtain ⟨F, _, _, _, h⟩ := h; exact h
theorem MS.below (h : MS cells e sz n v F0 w0 k m w) (hb : Below w.heap.size w w1) : MS cells e sz n v F0 w0 k m w1 := by
 obtain ⟨F, h1, h2, h3, h4⟩ := h; exact ⟨F, h1.below hb, h2, h3, h4.trans (MFr.of_below hb)⟩
theorem MS.at (h : MS cells e sz n (.slice (some ⟨g, 0, none⟩) n c) F0 w0 k m w) : g < w.heap.size ∨ cells.length = 0 := by
 obtain ⟨F, h1, _⟩ := h
 rcases Nat.eq_zero_or_pos cells.length with h0 | h0
 ·exact .inr h0
 ·obtain ⟨vs, G, _, hF, _⟩ := own_cell h1 (by rw [mTo_length]; exact h0)
  exact .inl (h1.lt g (by rw [hF]; simp))
/-- every cell is there and may be written -/
theorem MS.cell (h : MS cells e sz n (.slice (some ⟨g, 0, none⟩) n c) F0 w0 k m w) {j : Nat} (hj : j < cells.length) : ∃ u, w.cell? ⟨g, j, none⟩ = some u ∧ w.frozen? ⟨g, j, none⟩ = false := by
 obtain ⟨F, h1, _⟩ := h; exact own_at h1 (by rw [mTo_length]; exact hj)
theorem MS.store (h : MS cells e sz n (.slice (some ⟨g, 0, none⟩) n c) F0 w0 k m w) (hm : m < cells.length) {u : Value} (hu : own w (mrk cells[m] (kTo cells m k)) u []) : MS cells e sz n (.slice (some ⟨g, 0, none⟩) n c) F0 w0 k (m + 1) (w.setCell ⟨g, m, none⟩ u) := by
 obtain ⟨F, h1, h2, h3, h4⟩ := h
 obtain ⟨F2, k1, k2, k3⟩ := own_store (j := m) h1 (by rw [mTo_length]; exact hm) hu (by simp)
 rw [mTo_set k hm] at k1
 have hg : g ∈ F0 := by
  obtain ⟨vs, G, _, hF, _⟩ := own_cell h1 (by rw [mTo_length]; omega)
  exact h3 g (by rw [hF]; simp)
 exact ⟨F2, k1, k3 h2 List.nodup_nil (by simp), fun b hb => h3 b ((k2 b hb).elim id (fun h => by cases h)), h4.trans (MFr.of_set u hg)⟩
theorem MS.nested (h : MS cells e sz n (.slice (some ⟨g, 0, none⟩) n c) F0 w0 k m w) (hm : m < cells.length) : ∃ u Fj, own w cells[m] u Fj ∧ Fj.Nodup ∧ g ∉ Fj ∧ w.cell? ⟨g, m, none⟩ = some u ∧
    ∀ e1 w1, MrkP cells[m] u Fj (kTo cells m k) w e1 w1 → MS cells e sz n (.slice (some ⟨g, 0, none⟩) n c) F0 w0 k (m + 1) w1 ∧ (∀ o, w1.cell? ⟨g, o, none⟩ = w.cell? ⟨g, o, none⟩) ∧ (∀ o, w1.frozen? ⟨g, o, none⟩ = w.frozen? ⟨g, o, none⟩) := by
  obtain ⟨F, h1, h2, h3, h4⟩ := h
  have hlt := h1.lt
  simp only [own] at h1
  rcases h1 with ⟨vs, G, ho, hr, rfl, hng⟩ | ⟨_, h0, _⟩
  rotate_left
  · have := mTo_length cells m k; rw [h0] at this; simp at this; omega
  have hgG : g ∉ G := hng g rfl
  have hG : G.Nodup := (List.nodup_append.1 h2).2.1
  obtain ⟨u, Fj, k1, k2, k3, k4, k5⟩ := owns_sub (j := m) hr (by rw [mTo_length]; exact hm) hG
  rw [mTo_get k hm] at k1
  have hgl : g < w.heap.size := (ho.lt g rfl).2
  have hgj : g ∉ Fj := fun hk => hgG (k2 g hk)
  refine ⟨u, Fj, k1, k3, hgj, ?_, fun e1 w1 hM => ?_⟩
  · have := ho.cells (g := g) rfl m u k4; rwa [add_zero'] at this
  · obtain ⟨_, ⟨Fj', o1, n1, s1⟩, m1⟩ := hM
    obtain ⟨F2, r1, r2, r3⟩ := k5 w1 _ Fj' o1 s1 n1 m1
    rw [mTo_set k hm] at r1
    refine ⟨⟨[g] ++ F2, ?_, ?_, ?_, h4.trans (m1.mono fun b hb => h3 b (List.mem_append_right _ (k2 b hb)))⟩, fun o => m1.cell hgl hgj, fun o => m1.frozen hgl hgj⟩
    · simp only [own]
      exact .inl ⟨vs, F2, ownsRow_move ho (fun b hb => m1.block b (by have : g = b := by simpa [Value.ownBlock] using hb
                                                                      omega) (by have : g = b := by simpa [Value.ownBlock] using hb
                                                                                 exact this ▸ hgj)), r1, by simp [Value.ownBlock], fun b hb => by
        have : g = b := by simpa [Value.ownBlock] using hb
        exact this ▸ fun hk => hgG (r2 g hk)⟩
    · exact nod2 (by simp) r3 (fun a ha hb => by have : a = g := by simpa using ha
                                                 exact hgG (this ▸ r2 a hb))
    · intro b hb
      refine h3 b ?_
      rcases List.mem_append.1 hb with hb | hb
      · have : b = g := by simpa using hb
        simp [Value.ownBlock, this]
      · exact List.mem_append_right _ (r2 b hb)
end
theorem own_iN (w : World) (k : IntKind) {n m : Int} (h : n = m) : own w (.i k n) (.int k m) [] := h ▸ own_i w k n
theorem own_bN (w : World) {x y : Bool} (h : x = y) : own w (.b x) (.bool y) [] := h ▸ own_b w x
theorem kTo_bd (cells : List T) (m k : Nat) : kTo cells m k ≤ k + cnts cells := by
 unfold kTo
 have := cnts_append (cells.take m) (cells.drop m)
 rw [List.take_append_drop] at this
 omega
theorem MS.form {cells : List T} {e sz n c k m : Nat} {A : Option Addr} {F0 : List Nat} {w0 w : World} (h : MS cells e sz n (.slice A n c) F0 w0 k m w) (hn : 0 < n) : ∃ g, A = some ⟨g, 0, none⟩ := by
 obtain ⟨F, h1, _⟩ := h
 obtain ⟨g, c', he, _⟩ := own_form h1 hn
 cases he; exact ⟨g, rfl⟩
/-- a cell of a marked list -/
theorem mrk_cell {cells : List T} {e sz n c g k m : Nat} {F : List Nat} {w : World} (h : own w (.l e sz n (mrks cells k)) (.slice (some ⟨g, 0, none⟩) n c) F) (hm : m < cells.length) : ∃ u Fm, own w (mrk cells[m] (kTo cells m k)) u Fm ∧ w.cell? ⟨g, m, none⟩ = some u := by
 have hm' : m < (mrks cells k).length := by rw [mrks_length]; exact hm
 obtain ⟨vs, G, hr, _, _, hc, _⟩ := own_cell h (by omega)
 have sub : ∀ {ts : List T} {us : List Value} {F : List Nat} {j : Nat}, owns w ts us F → (hj : j < ts.length) → ∃ u Fj, own w ts[j] u Fj ∧ us[j]? = some u := by
  intro ts
  induction ts with
  | nil => intro us F j _ hj; simp at hj
  | cons t ts ih =>
   intro us F j h hj
   simp only [owns] at h
   obtain ⟨v, us, F1, F2, rfl, h1, h2, rfl⟩ := h
   cases j with
   | zero => exact ⟨v, F1, h1, rfl⟩
   | succ j => obtain ⟨u, Fj, k1, k2⟩ := ih (j := j) h2 (by simpa using hj); exact ⟨u, Fj, k1, k2⟩
 obtain ⟨u, Fm, k1, k2⟩ := sub hr hm'
 rw [mrks_get k hm] at k1
 exact ⟨u, Fm, k1, hc m u k2⟩
end Go.Proofs.YtkpkfihaihoaeaaGreatDoor.M
end
section
set_option linter.unusedVariables false
set_option linter.unusedSimpArgs false
namespace Go.Proofs.YtkpkfihaihoaeaaGreatDoor.M
open Go.RowKit
/-- v reads as t, whatever becomes of the blocks M -/
def repS (M : List Nat) (w : World) (t : T) (v : Value) : Prop := ∀ w', MFr M w w' → rep w' t v
def repsS (M : List Nat) (w : World) (ts : List T) (vs : List Value) : Prop := ∀ w', MFr M w w' → reps w' ts vs
section
variable {Z N : List Nat} {w w' : World} {t : T} {v : Value} {ts us : List T} {vs xs : List Value}
theorem repS.rep (h : repS Z w t v) : M.rep w t v := h w (MFr.refl _ _)
theorem repsS.reps (h : repsS Z w ts vs) : M.reps w ts vs := h w (MFr.refl _ _)
theorem repS.go (h : repS Z w t v) (hm : MFr Z w w') : repS Z w' t v := fun w2 h2 => h w2 (hm.trans h2)
theorem repsS.go (h : repsS Z w ts vs) (hm : MFr Z w w') : repsS Z w' ts vs := fun w2 h2 => h w2 (hm.trans h2)
theorem repS.later (h : repS Z w t v) (hb : Below w.heap.size w w') : repS Z w' t v := h.go (MFr.of_below hb)
theorem repsS.later (h : repsS Z w ts vs) (hb : Below w.heap.size w w') : repsS Z w' ts vs := h.go (MFr.of_below hb)
theorem repS.sub (h : repS Z w t v) (hs : ∀ b ∈ N, b ∈ Z) : repS N w t v := fun w2 h2 => h w2 (h2.mono hs)
theorem repsS.sub (h : repsS Z w ts vs) (hs : ∀ b ∈ N, b ∈ Z) : repsS N w ts vs := fun w2 h2 => h w2 (h2.mono hs)
/-- what reads in a world before the blocks M were made -/
theorem repS.of {W : World} (h : M.rep W t v) (hb : Below W.heap.size W w) (hM : ∀ b ∈ Z, W.heap.size ≤ b) : repS Z w t v := fun w2 h2 => h.below ⟨h2.os.trans hb.os, h2.tape.trans hb.tape, h2.output.trans hb.output, Nat.le_trans hb.size h2.size, fun k hk => (h2.block k (Nat.lt_of_lt_of_le hk hb.size) (fun hm => by have := hM k hm; omega)).trans (hb.block k hk)⟩
theorem repsS.of {W : World} (h : M.reps W ts vs) (hb : Below W.heap.size W w) (hM : ∀ b ∈ Z, W.heap.size ≤ b) : repsS Z w ts vs := fun w2 h2 => h.below ⟨h2.os.trans hb.os, h2.tape.trans hb.tape, h2.output.trans hb.output, Nat.le_trans hb.size h2.size, fun k hk => (h2.block k (Nat.lt_of_lt_of_le hk hb.size) (fun hm => by have := hM k hm; omega)).trans (hb.block k hk)⟩
theorem repS.of_own {F : List Nat} (h : own w t v F) (hd : ∀ b ∈ F, b ∉ Z) : repS Z w t v := fun w2 h2 => (h2.own h hd).rep
theorem repsS.of_owns {F : List Nat} (h : owns w ts vs F) (hd : ∀ b ∈ F, b ∉ Z) : repsS Z w ts vs := fun w2 h2 => (h2.owns h hd).rep
theorem repsS.append (h : repsS Z w ts vs) (k : repsS Z w us xs) : repsS Z w (ts ++ us) (vs ++ xs) := fun w2 h2 => reps_append (h w2 h2) (k w2 h2)
end
/-- a row of the call's own, whose elements read elsewhere -/
def RowT (lo : Nat) (w : World) (e sz n : Nat) (ts : List T) (v : Value) : Prop := ∃ vs, RowSt lo w e sz n vs v ∧ repsS v.ownBlock.toList w ts vs
theorem RowT.nil (lo : Nat) (w : World) (e sz : Nat) : RowT lo w e sz 0 [] (.slice none 0 0) := ⟨[], RowSt.nil _ _ _ _, fun w' _ => by simp only [M.reps]⟩
theorem RowT.empty (w : World) (e sz : Nat) : RowT w.heap.size (w.alloc (.cells #[] e)) e sz 0 [] (.slice (some ⟨w.heap.size, 0, none⟩) 0 0) :=
 ⟨[], ⟨⟨by simp, .inr ⟨w.heap.size, 0, #[], rfl, Nat.zero_le _, heap_alloc_new _ _, Nat.le_refl _, Nat.zero_le _, by simp, by simp⟩⟩, fun k hk => by simp [Value.ownBlock] at hk; omega⟩, fun w' _ => by simp only [M.reps]⟩
theorem RowT.slice {lo : Nat} {w : World} {e sz n : Nat} {ts : List T} {v : Value} (h : RowT lo w e sz n ts v) : ∃ A c, v = .slice A n c ∧ n ≤ c := by
 obtain ⟨vs, h, _⟩ := h; exact h.slice
theorem RowT.lo {lo : Nat} {w : World} {e sz n : Nat} {ts : List T} {v : Value} (h : RowT lo w e sz n ts v) : ∀ k, v.ownBlock = some k → lo ≤ k := by
 obtain ⟨vs, h, _⟩ := h; exact h.2
theorem RowT.lt {lo : Nat} {w : World} {e sz n : Nat} {ts : List T} {v : Value} (h : RowT lo w e sz n ts v) : ∀ k, v.ownBlock = some k → k < w.heap.size := by
 obtain ⟨vs, h, _⟩ := h; exact fun k hk => (h.1.lt k hk).2
theorem RowT.mono {lo l : Nat} {w : World} {e sz n : Nat} {ts : List T} {v : Value} (h : RowT lo w e sz n ts v) (hl : l ≤ lo) : RowT l w e sz n ts v := by
 obtain ⟨vs, h, k⟩ := h; exact ⟨vs, ⟨h.1, fun b hb => Nat.le_trans hl (h.2 b hb)⟩, k⟩
theorem MFr.to_nil {M : List Nat} {w w' : World} (h : MFr [] w w') : MFr M w w' := h.mono (fun b hb => by cases hb)
/-- other blocks turn -/
theorem RowT.go {lo : Nat} {N : List Nat} {w w' : World} {e sz n : Nat} {ts : List T} {v : Value} (h : RowT lo w e sz n ts v) (hm : MFr N w w') (hd : ∀ k, v.ownBlock = some k → k ∉ N) (hr : ∀ vs, repsS v.ownBlock.toList w ts vs → repsS (v.ownBlock.toList ++ N) w ts vs) : RowT lo w' e sz n ts v := by
 obtain ⟨vs, h1, h2⟩ := h
 refine ⟨vs, ⟨ownsRow_move h1.1 (fun k hk => hm.block k (h1.1.lt k hk).2 (hd k hk)), h1.2⟩, ?_⟩
 exact ((hr vs h2).go (hm.mono (fun b hb => List.mem_append_right _ hb))).sub (fun b hb => List.mem_append_left _ hb)
theorem RowT.later {lo : Nat} {w w' : World} {e sz n : Nat} {ts : List T} {v : Value} (h : RowT lo w e sz n ts v) (hb : Below w.heap.size w w') : RowT lo w' e sz n ts v := by
 obtain ⟨vs, h1, h2⟩ := h
 exact ⟨vs, h1.below hb, h2.later hb⟩
theorem RowT.rep {lo : Nat} {w : World} {e sz n : Nat} {ts : List T} {v : Value} (h : RowT lo w e sz n ts v) : M.rep w (.l e sz n ts) v := by
 obtain ⟨vs, h1, h2⟩ := h
 have hr := h2.reps
 have hl := reps_length hr
 simp only [M.rep]
 rcases h1.1.2 with ⟨rfl, h0⟩ | ⟨g, cap, cur, rfl, _, hh, hc, hm, _⟩
 ·have hn : n = 0 := h0
  subst hn
  exact ⟨by rw [← hl, h1.1.1], by omega, none, 0, vs, rfl, Nat.le_refl _, hr, fun hn => absurd hn (by omega)⟩
 ·exact ⟨by rw [← hl, h1.1.1], by simp only [maxLen] at hm; omega, _, cap, vs, rfl, hc, hr, fun _ => ⟨_, rfl, fun j u hj => h1.1.cells (g := g) rfl j u hj⟩⟩
theorem RowT.repS {lo : Nat} {w : World} {e sz n : Nat} {ts : List T} {v : Value} {N : List Nat} (h : RowT lo w e sz n ts v) (hd : ∀ k, v.ownBlock = some k → k ∉ N) (hr : ∀ vs, repsS v.ownBlock.toList w ts vs → repsS (v.ownBlock.toList ++ N) w ts vs) : M.repS N w (.l e sz n ts) v :=
 fun w2 h2 => (h.go h2 hd hr).rep
section
variable {Pg : Program} {w wr : World} {lo : Nat}
theorem run_appT (t ty : TypeId) {e sz by_ : Nat} {z : Value} (ht : Pg.underlying t = some (.slice e))
  (hi : (Pg.info? e).map (fun i => (i.zero, i.size, i.bytes)) = some (some z, sz, by_)) (hzs : z.cells.size = sz) (hsz : 0 < sz) {v : Value} {n : Nat} {ts : List T}
  (hlo : lo ≤ wr.heap.size) (hown : RowT lo wr e sz n ts v) (hb : Below wr.heap.size wr w)
  {ad : Addr} {m c : Nat} {us : List Value} {ss : List T} (hnews : ∀ j u, us[j]? = some u → w.cell? (ad.add j) = some u) (hl : us.length = m * sz) (hu : repsS v.ownBlock.toList w ss us)
  (h63 : n + m ≤ maxLen) (hbytes : (n + m) * by_ ≤ 140737488355328) :
  ∃ v' w', (Builtin.append_ #[t, t] ty #[v, .slice (some ad) m c]).run Pg w = .ok v' w' ∧ RowT lo w' e sz (n + m) (ts ++ ss) v' ∧ MFr v.ownBlock.toList w w' ∧ ∀ k, v'.ownBlock = some k → v.ownBlock = some k ∨ w.heap.size ≤ k := by
 obtain ⟨i, g2, g3, g4, g5⟩ := info_parts hi
 subst g4
 subst g5
 obtain ⟨vs, h1, h2⟩ := hown
 have hlt := h1.1.lt
 obtain ⟨v', w', hr, k1, k2, _, k4⟩ := run_append_own_at (P := Pg) w 0 t ty e i z i.size i.bytes ht g2 g3 rfl rfl hzs hsz v n vs (h1.below hb).1 ad m c us hl hnews (reps_one' hu.reps) h63 hbytes (Nat.zero_le _)
 have hm : MFr v.ownBlock.toList w w' := ⟨k2.os, k2.tape, k2.output, k2.size, fun b hb' hn => k2.block b hb' (fun e => hn (by rw [← e]; simp))⟩
 have hall : repsS v.ownBlock.toList w (ts ++ ss) (vs ++ us) := (h2.later hb).append hu
 refine ⟨v', w', hr, ⟨vs ++ us, ⟨k1, fun k hk => ?_⟩, ?_⟩, hm, fun k hk => ?_⟩
 ·rcases k4 with h | h
  ·rw [h] at hk; exact h1.2 k hk
  ·rw [h] at hk; cases hk; exact Nat.le_trans hlo hb.size
 ·rcases k4 with h | h
  ·rw [h]; exact hall.go hm
  ·rw [h]
   intro w2 hw2
   refine hall w2 ⟨hw2.os.trans hm.os, hw2.tape.trans hm.tape, hw2.output.trans hm.output, Nat.le_trans hm.size hw2.size, fun b hb' hn => ?_⟩
   exact (hw2.block b (Nat.lt_of_lt_of_le hb' hm.size) (by simp; omega)).trans (hm.block b hb' hn)
 ·rcases k4 with h | h
  ·rw [h] at hk; exact .inl hk
  ·rw [h] at hk; cases hk; exact .inr (Nat.le_refl _)
theorem appT {ops : Array Oper} {rest : List Oper} {o : Oper} {a : Act} {Q : Exit → Act → World → Prop} (hgd : o.guard = none) {s x : Operand} {t : TypeId} (ho : o.op = .call { callee := .builtin .append, args := #[s, x], argTypes := #[t, t] }) {e sz by_ : Nat} {z : Value} (ht : Pg.underlying t = some (.slice e))
  (hi : (Pg.info? e).map (fun i => (i.zero, i.size, i.bytes)) = some (some z, sz, by_)) (hzs : z.cells.size = sz) (hsz : 0 < sz) {v : Value} (hs : a.eval s = v) {n : Nat} {ts : List T}
  (hlo : lo ≤ wr.heap.size) (hown : RowT lo wr e sz n ts v) (hb : Below wr.heap.size wr w)
  {ad : Addr} {m c : Nat} (hx : a.eval x = .slice (some ad) m c) {us : List Value} {ss : List T} (hnews : ∀ j u, us[j]? = some u → w.cell? (ad.add j) = some u) (hl : us.length = m * sz) (hu : repsS v.ownBlock.toList w ss us)
  (h63 : n + m ≤ maxLen) (hbytes : (n + m) * by_ ≤ 140737488355328)
  (h : ∀ v' w', RowT lo w' e sz (n + m) (ts ++ ss) v' → MFr v.ownBlock.toList w w' → (∀ k, v'.ownBlock = some k → v.ownBlock = some k ∨ w.heap.size ≤ k) → wpList Pg ops Q rest (a.put o.dst v') w') :
  wpList Pg ops Q (o :: rest) a w := by
 refine wpList_plain hgd fun K hK => ?_
 obtain ⟨v', w', hr, h2, h3, h4⟩ := run_appT (Pg := Pg) (w := w) (wr := wr) (c := c) t o.type ht hi hzs hsz hlo hown hb hnews hl hu h63 hbytes
 unfold Oper.wp execOp
 simp only [ho, resolve, invoke, builtin, Sem.run_bind, Sem.run_pure, Result.andThen_ok, List.map_toArray, List.map_cons, List.map_nil, hs, hx, hr]
 exact hK _ _ (h v' w' h2 h3 h4)
theorem step_appT {ops : Array Oper} {o : Oper} {a : Act} {K : Act → World → Prop} {Q : Exit → Act → World → Prop} {E : Prop} (hgd : o.guard = none) {s x : Operand} {t : TypeId} (ho : o.op = .call { callee := .builtin .append, args := #[s, x], argTypes := #[t, t] }) {e sz by_ : Nat} {z : Value} (ht : Pg.underlying t = some (.slice e))
  (hi : (Pg.info? e).map (fun i => (i.zero, i.size, i.bytes)) = some (some z, sz, by_)) (hzs : z.cells.size = sz) (hsz : 0 < sz) {v : Value} (hs : a.eval s = v) {n : Nat} {ts : List T}
  (hlo : lo ≤ wr.heap.size) (hown : RowT lo wr e sz n ts v) (hb : Below wr.heap.size wr w)
  {ad : Addr} {m c : Nat} (hx : a.eval x = .slice (some ad) m c) {us : List Value} {ss : List T} (hnews : ∀ j u, us[j]? = some u → w.cell? (ad.add j) = some u) (hl : us.length = m * sz) (hu : repsS v.ownBlock.toList w ss us)
  (h63 : n + m ≤ maxLen) (hbytes : (n + m) * by_ ≤ 140737488355328)
  (h : ∀ v' w', RowT lo w' e sz (n + m) (ts ++ ss) v' → MFr v.ownBlock.toList w w' → (∀ k, v'.ownBlock = some k → v.ownBlock = some k ∨ w.heap.size ≤ k) → K (a.put o.dst v') w') :
  if Region.wanted o (yielded ops a.tmps) = true then Oper.wp Pg o a w K Q else E := by
 have hw : Region.wanted o (yielded ops a.tmps) = true := by simp [Region.wanted, hgd]
 rw [if_pos hw]
 obtain ⟨v', w', hr, h2, h3, h4⟩ := run_appT (Pg := Pg) (w := w) (wr := wr) (c := c) t o.type ht hi hzs hsz hlo hown hb hnews hl hu h63 hbytes
 unfold Oper.wp execOp
 simp only [ho, resolve, invoke, builtin, Sem.run_bind, Sem.run_pure, Result.andThen_ok, List.map_toArray, List.map_cons, List.map_nil, hs, hx, hr]
 exact h v' w' h2 h3 h4
end
/-- a row of the call's own, whose elements read elsewhere, whatever becomes of the blocks N -/
def RowN (N : List Nat) (lo : Nat) (w : World) (e sz n : Nat) (ts : List T) (v : Value) : Prop := ∃ vs, RowSt lo w e sz n vs v ∧ repsS (v.ownBlock.toList ++ N) w ts vs
theorem RowN.row {N : List Nat} {lo : Nat} {w : World} {e sz n : Nat} {ts : List T} {v : Value} (h : RowN N lo w e sz n ts v) : RowT lo w e sz n ts v := by
 obtain ⟨vs, h1, h2⟩ := h; exact ⟨vs, h1, h2.sub (fun b hb => List.mem_append_left _ hb)⟩
theorem RowN.nil (N : List Nat) (lo : Nat) (w : World) (e sz : Nat) : RowN N lo w e sz 0 [] (.slice none 0 0) := ⟨[], RowSt.nil _ _ _ _, fun w' _ => by simp only [M.reps]⟩
theorem RowN.later {N : List Nat} {lo : Nat} {w w' : World} {e sz n : Nat} {ts : List T} {v : Value} (h : RowN N lo w e sz n ts v) (hb : Below w.heap.size w w') : RowN N lo w' e sz n ts v := by
 obtain ⟨vs, h1, h2⟩ := h
 exact ⟨vs, h1.below hb, h2.later hb⟩
theorem RowN.go {lo : Nat} {N : List Nat} {w w' : World} {e sz n : Nat} {ts : List T} {v : Value} (h : RowN N lo w e sz n ts v) (hm : MFr N w w') (hd : ∀ k, v.ownBlock = some k → k ∉ N) : RowN N lo w' e sz n ts v := by
 obtain ⟨vs, h1, h2⟩ := h
 exact ⟨vs, ⟨ownsRow_move h1.1 (fun k hk => hm.block k (h1.1.lt k hk).2 (hd k hk)), h1.2⟩, h2.go (hm.mono (fun b hb => List.mem_append_right _ hb))⟩
theorem RowN.repS {lo : Nat} {w : World} {e sz n : Nat} {ts : List T} {v : Value} {N : List Nat} (h : RowN N lo w e sz n ts v) (hd : ∀ k, v.ownBlock = some k → k ∉ N) : M.repS N w (.l e sz n ts) v :=
 fun w2 h2 => (h.go h2 hd).row.rep
theorem RowN.empty (N : List Nat) (w : World) (e sz : Nat) : RowN N w.heap.size (w.alloc (.cells #[] e)) e sz 0 [] (.slice (some ⟨w.heap.size, 0, none⟩) 0 0) :=
 ⟨[], ⟨⟨by simp, .inr ⟨w.heap.size, 0, #[], rfl, Nat.zero_le _, heap_alloc_new _ _, Nat.le_refl _, Nat.zero_le _, by simp, by simp⟩⟩, fun k hk => by simp [Value.ownBlock] at hk; omega⟩, fun w' _ => by simp only [M.reps]⟩
theorem RowN.slice {N : List Nat} {lo : Nat} {w : World} {e sz n : Nat} {ts : List T} {v : Value} (h : RowN N lo w e sz n ts v) : ∃ A c, v = .slice A n c ∧ n ≤ c := h.row.slice
theorem RowN.lo {N : List Nat} {lo : Nat} {w : World} {e sz n : Nat} {ts : List T} {v : Value} (h : RowN N lo w e sz n ts v) : ∀ k, v.ownBlock = some k → lo ≤ k := h.row.lo
theorem RowN.lt {N : List Nat} {lo : Nat} {w : World} {e sz n : Nat} {ts : List T} {v : Value} (h : RowN N lo w e sz n ts v) : ∀ k, v.ownBlock = some k → k < w.heap.size := h.row.lt
theorem RowN.ge {N : List Nat} {lo : Nat} {w : World} {e sz n : Nat} {ts : List T} {v : Value} (h : RowN N lo w e sz n ts v) : ∀ b ∈ v.ownBlock.toList, lo ≤ b := fun b hb => h.lo b (by simpa [Option.mem_toList] using hb)
theorem RowN.mono {N : List Nat} {lo l : Nat} {w : World} {e sz n : Nat} {ts : List T} {v : Value} (h : RowN N lo w e sz n ts v) (hl : l ≤ lo) : RowN N l w e sz n ts v := by
 obtain ⟨vs, h, k⟩ := h; exact ⟨vs, ⟨h.1, fun b hb => Nat.le_trans hl (h.2 b hb)⟩, k⟩
theorem repsS.ofN {Z N : List Nat} {w W : World} {ts : List T} {vs : List Value} (h : repsS N W ts vs) (hb : Below W.heap.size W w) (hM : ∀ b ∈ Z, W.heap.size ≤ b) : repsS (Z ++ N) w ts vs := fun w2 h2 => h w2 ⟨h2.os.trans hb.os, h2.tape.trans hb.tape, h2.output.trans hb.output, Nat.le_trans hb.size h2.size, fun k hk hn => (h2.block k (Nat.lt_of_lt_of_le hk hb.size) (fun hm => by
 rcases List.mem_append.1 hm with hm | hm
 ·have := hM k hm; omega
 ·exact hn hm)).trans (hb.block k hk)⟩
theorem repS.nil {w : World} {t : T} {v : Value} (h : M.rep w t v) : repS [] w t v := fun w2 h2 => h.below (h2.below (Nat.le_refl _) (fun b hb => by cases hb))
theorem repsS.nil {w : World} {ts : List T} {vs : List Value} (h : M.reps w ts vs) : repsS [] w ts vs := fun w2 h2 => h.below (h2.below (Nat.le_refl _) (fun b hb => by cases hb))
section
variable {Pg : Program} {w wr : World} {lo : Nat} {N : List Nat}
theorem run_appN (t ty : TypeId) {e sz by_ : Nat} {z : Value} (ht : Pg.underlying t = some (.slice e))
  (hi : (Pg.info? e).map (fun i => (i.zero, i.size, i.bytes)) = some (some z, sz, by_)) (hzs : z.cells.size = sz) (hsz : 0 < sz) {v : Value} {n : Nat} {ts : List T}
  (hlo : lo ≤ wr.heap.size) (hown : RowN N lo wr e sz n ts v) (hb : Below wr.heap.size wr w)
  {ad : Addr} {m c : Nat} {us : List Value} {ss : List T} (hnews : ∀ j u, us[j]? = some u → w.cell? (ad.add j) = some u) (hl : us.length = m * sz) (hu : repsS (v.ownBlock.toList ++ N) w ss us)
  (h63 : n + m ≤ maxLen) (hbytes : (n + m) * by_ ≤ 140737488355328) :
  ∃ v' w', (Builtin.append_ #[t, t] ty #[v, .slice (some ad) m c]).run Pg w = .ok v' w' ∧ RowN N lo w' e sz (n + m) (ts ++ ss) v' ∧ MFr v.ownBlock.toList w w' ∧ ∀ k, v'.ownBlock = some k → v.ownBlock = some k ∨ w.heap.size ≤ k := by
 obtain ⟨i, g2, g3, g4, g5⟩ := info_parts hi
 subst g4
 subst g5
 obtain ⟨vs, h1, h2⟩ := hown
 have hlt := h1.1.lt
 obtain ⟨v', w', hr, k1, k2, _, k4⟩ := run_append_own_at (P := Pg) w 0 t ty e i z i.size i.bytes ht g2 g3 rfl rfl hzs hsz v n vs (h1.below hb).1 ad m c us hl hnews (reps_one' hu.reps) h63 hbytes (Nat.zero_le _)
 have hm : MFr v.ownBlock.toList w w' := ⟨k2.os, k2.tape, k2.output, k2.size, fun b hb' hn => k2.block b hb' (fun e => hn (by rw [← e]; simp))⟩
 have hall : repsS (v.ownBlock.toList ++ N) w (ts ++ ss) (vs ++ us) := (h2.later hb).append hu
 refine ⟨v', w', hr, ⟨vs ++ us, ⟨k1, fun k hk => ?_⟩, ?_⟩, hm, fun k hk => ?_⟩
 ·rcases k4 with h | h
  ·rw [h] at hk; exact h1.2 k hk
  ·rw [h] at hk; cases hk; exact Nat.le_trans hlo hb.size
 ·rcases k4 with h | h
  ·rw [h]; exact hall.go (hm.mono (fun b hb => List.mem_append_left _ hb))
  ·rw [h]
   intro w2 hw2
   refine hall w2 ⟨hw2.os.trans hm.os, hw2.tape.trans hm.tape, hw2.output.trans hm.output, Nat.le_trans hm.size hw2.size, fun b hb' hn => ?_⟩
   exact (hw2.block b (Nat.lt_of_lt_of_le hb' hm.size) (fun hx => by
    rcases List.mem_append.1 hx with h1 | h1
    ·simp at h1; omega
    ·exact hn (List.mem_append_right _ h1))).trans (hm.block b hb' (fun hx => hn (List.mem_append_left _ hx)))
 ·rcases k4 with h | h
  ·rw [h] at hk; exact .inl hk
  ·rw [h] at hk; cases hk; exact .inr (Nat.le_refl _)
theorem appN {ops : Array Oper} {rest : List Oper} {o : Oper} {a : Act} {Q : Exit → Act → World → Prop} (hgd : o.guard = none) {s x : Operand} {t : TypeId} (ho : o.op = .call { callee := .builtin .append, args := #[s, x], argTypes := #[t, t] }) {e sz by_ : Nat} {z : Value} (ht : Pg.underlying t = some (.slice e))
  (hi : (Pg.info? e).map (fun i => (i.zero, i.size, i.bytes)) = some (some z, sz, by_)) (hzs : z.cells.size = sz) (hsz : 0 < sz) {v : Value} (hs : a.eval s = v) {n : Nat} {ts : List T}
  (hlo : lo ≤ wr.heap.size) (hown : RowN N lo wr e sz n ts v) (hb : Below wr.heap.size wr w)
  {ad : Addr} {m c : Nat} (hx : a.eval x = .slice (some ad) m c) {us : List Value} {ss : List T} (hnews : ∀ j u, us[j]? = some u → w.cell? (ad.add j) = some u) (hl : us.length = m * sz) (hu : repsS (v.ownBlock.toList ++ N) w ss us)
  (h63 : n + m ≤ maxLen) (hbytes : (n + m) * by_ ≤ 140737488355328)
  (h : ∀ v' w', RowN N lo w' e sz (n + m) (ts ++ ss) v' → MFr v.ownBlock.toList w w' → (∀ k, v'.ownBlock = some k → v.ownBlock = some k ∨ w.heap.size ≤ k) → wpList Pg ops Q rest (a.put o.dst v') w') :
  wpList Pg ops Q (o :: rest) a w := by
 refine wpList_plain hgd fun K hK => ?_
 obtain ⟨v', w', hr, h2, h3, h4⟩ := run_appN (Pg := Pg) (w := w) (wr := wr) (c := c) t o.type ht hi hzs hsz hlo hown hb hnews hl hu h63 hbytes
 unfold Oper.wp execOp
 simp only [ho, resolve, invoke, builtin, Sem.run_bind, Sem.run_pure, Result.andThen_ok, List.map_toArray, List.map_cons, List.map_nil, hs, hx, hr]
 exact hK _ _ (h v' w' h2 h3 h4)
theorem step_appN {ops : Array Oper} {o : Oper} {a : Act} {K : Act → World → Prop} {Q : Exit → Act → World → Prop} {E : Prop} (hgd : o.guard = none) {s x : Operand} {t : TypeId} (ho : o.op = .call { callee := .builtin .append, args := #[s, x], argTypes := #[t, t] }) {e sz by_ : Nat} {z : Value} (ht : Pg.underlying t = some (.slice e))
  (hi : (Pg.info? e).map (fun i => (i.zero, i.size, i.bytes)) = some (some z, sz, by_)) (hzs : z.cells.size = sz) (hsz : 0 < sz) {v : Value} (hs : a.eval s = v) {n : Nat} {ts : List T}
  (hlo : lo ≤ wr.heap.size) (hown : RowN N lo wr e sz n ts v) (hb : Below wr.heap.size wr w)
  {ad : Addr} {m c : Nat} (hx : a.eval x = .slice (some ad) m c) {us : List Value} {ss : List T} (hnews : ∀ j u, us[j]? = some u → w.cell? (ad.add j) = some u) (hl : us.length = m * sz) (hu : repsS (v.ownBlock.toList ++ N) w ss us)
  (h63 : n + m ≤ maxLen) (hbytes : (n + m) * by_ ≤ 140737488355328)
  (h : ∀ v' w', RowN N lo w' e sz (n + m) (ts ++ ss) v' → MFr v.ownBlock.toList w w' → (∀ k, v'.ownBlock = some k → v.ownBlock = some k ∨ w.heap.size ≤ k) → K (a.put o.dst v') w') :
  if Region.wanted o (yielded ops a.tmps) = true then Oper.wp Pg o a w K Q else E := by
 have hw : Region.wanted o (yielded ops a.tmps) = true := by simp [Region.wanted, hgd]
 rw [if_pos hw]
 obtain ⟨v', w', hr, h2, h3, h4⟩ := run_appN (Pg := Pg) (w := w) (wr := wr) (c := c) t o.type ht hi hzs hsz hlo hown hb hnews hl hu h63 hbytes
 unfold Oper.wp execOp
 simp only [ho, resolve, invoke, builtin, Sem.run_bind, Sem.run_pure, Result.andThen_ok, List.map_toArray, List.map_cons, List.map_nil, hs, hx, hr]
 exact h v' w' h2 h3 h4
end
end Go.Proofs.YtkpkfihaihoaeaaGreatDoor.M
end
section
set_option linter.unusedVariables false
set_option linter.unusedSimpArgs false
namespace Go.Proofs.YtkpkfihaihoaeaaGreatDoor.M
open Go.RowKit
theorem cellOf {w : World} {b : Nat} {cs : Array Value} {ty : TypeId} {fr : Nat × Nat} (h : w.heap[b]? = some (.cells cs ty fr)) {i : Nat} {v : Value} (hi : cs[i]? = some v) : w.cell? ⟨b, i, none⟩ = some v := by
 simp [World.cell?, h, hi]
theorem frozenOf {w : World} {b : Nat} {cs : Array Value} {ty : TypeId} (h : w.heap[b]? = some (.cells cs ty (0, 0))) (i : Nat) : w.frozen? ⟨b, i, none⟩ = false := by
 simp [World.frozen?, h]
theorem lt_of_heap {w : World} {b : Nat} {o : Obj} (h : w.heap[b]? = some o) : b < w.heap.size := (Array.getElem?_eq_some_iff.1 h).1
structure Ent where
 r : Run
 b : Nat
 v : Value
 G : List Nat
def runCells (r : Run) (v : Value) : Array Value := #[.string r.Name, .bool r.Over, .bool r.Fail, .string r.Text, .int .i64 r.At, .int .i64 r.Visits, v]
def RunAt (w : World) (x : Ent) : Prop := w.heap[x.b]? = some (.cells (runCells x.r x.v) 84 (0, 0)) ∧ own w (strsT 9 x.r.Texts) x.v x.G
def entF (x : Ent) : List Nat := x.b :: x.G
def entsF (L : List Ent) : List Nat := L.flatMap entF
def ptrP (x : Ent) : ByteArray × Value := (x.r.Name, .pointer (some ⟨x.b, 0, none⟩))
def ptrC (L : List Ent) : List (ByteArray × Value) := L.map ptrP
/-- all of it, laid open -/
structure EngX (lo : Nat) (w : World) (W : Web) (roots : List ByteArray) (R : List Run) (e : Nat) (F : List Nat) (m : Nat) (nv rv : Value) (L : List Ent) (Fr : List Nat) (W0 : World) (tN tS tC : Nat) : Prop where
 eng : w.heap[e]? = some (.cells #[nv, rv, .map (some m)] 125 (0, 0))
 nodes : rep W0 (NodesT tN tS tC W.Nodes) nv
 low : W0.heap.size ≤ lo
 below : Below W0.heap.size W0 w
 above : ∀ b ∈ F, lo ≤ b
 roots : own w (strsT 9 roots) rv Fr
 map : MapAt w m (ptrC L)
 runs : ∀ x ∈ L, RunAt w x
 perm : R.Perm (L.map Ent.r)
 asc : AscR R
 foot : F = e :: m :: (Fr ++ entsF L)
 nodup : F.Nodup
def Eng (lo : Nat) (w : World) (W : Web) (roots : List ByteArray) (R : List Run) (e : Nat) (F : List Nat) : Prop := ∃ m nv rv L Fr W0 tN tS tC, EngX lo w W roots R e F m nv rv L Fr W0 tN tS tC
theorem MFr.below0 {F : List Nat} {w w' : World} {lo : Nat} {W0 : World} (h : MFr F w w') (hF : ∀ b ∈ F, lo ≤ b) (hl : W0.heap.size ≤ lo) (hb : Below W0.heap.size W0 w) : Below W0.heap.size W0 w' :=
 ⟨h.os.trans hb.os, h.tape.trans hb.tape, h.output.trans hb.output, Nat.le_trans hb.size h.size, fun k hk => (h.block k (Nat.lt_of_lt_of_le hk hb.size) (fun hf => by have := hF k hf; omega)).trans (hb.block k hk)⟩
section
variable {lo : Nat} {w w' : World} {W : Web} {roots : List ByteArray} {R : List Run} {e : Nat} {F : List Nat} {m : Nat} {nv rv : Value} {L : List Ent} {Fr : List Nat} {W0 : World} {tN tS tC : Nat}
theorem EngX.lt (h : EngX lo w W roots R e F m nv rv L Fr W0 tN tS tC) : ∀ b ∈ F, b < w.heap.size := by
 intro b hb
 rw [h.foot] at hb
 rcases List.mem_cons.1 hb with rfl | hb
 ·exact lt_of_heap h.eng
 ·rcases List.mem_cons.1 hb with rfl | hb
  ·exact h.map.lt
  ·rcases List.mem_append.1 hb with hb | hb
   ·exact h.roots.lt b hb
   ·obtain ⟨x, hx, hb⟩ := List.mem_flatMap.1 hb
    obtain ⟨h1, h2⟩ := h.runs x hx
    rcases List.mem_cons.1 hb with rfl | hb
    ·exact lt_of_heap h1
    ·exact h2.lt b hb
theorem Eng.lt (h : Eng lo w W roots R e F) : ∀ b ∈ F, b < w.heap.size := by
 obtain ⟨m, nv, rv, L, Fr, W0, tN, tS, tC, h⟩ := h; exact h.lt
theorem Eng.above (h : Eng lo w W roots R e F) : ∀ b ∈ F, lo ≤ b := by
 obtain ⟨m, nv, rv, L, Fr, W0, tN, tS, tC, h⟩ := h; exact h.above
theorem Eng.nodup (h : Eng lo w W roots R e F) : F.Nodup := by
 obtain ⟨m, nv, rv, L, Fr, W0, tN, tS, tC, h⟩ := h; exact h.nodup
theorem Eng.self (h : Eng lo w W roots R e F) : e ∈ F := by
 obtain ⟨m, nv, rv, L, Fr, W0, tN, tS, tC, h⟩ := h; rw [h.foot]; exact List.mem_cons_self ..
theorem RunAt.move {x : Ent} (h : RunAt w x) (hm : ∀ b ∈ entF x, w'.heap[b]? = w.heap[b]?) : RunAt w' x :=
 ⟨(hm _ (List.mem_cons_self ..)).trans h.1, h.2.move fun b hb => hm b (List.mem_cons_of_mem _ hb)⟩
theorem EngX.move (h : EngX lo w W roots R e F m nv rv L Fr W0 tN tS tC) (hm : ∀ b ∈ F, w'.heap[b]? = w.heap[b]?) (hb : Below W0.heap.size W0 w') : EngX lo w' W roots R e F m nv rv L Fr W0 tN tS tC := by
 have hf : ∀ b, b ∈ e :: m :: (Fr ++ entsF L) → w'.heap[b]? = w.heap[b]? := fun b hb => hm b (h.foot ▸ hb)
 exact ⟨(hf e (by simp)).trans h.eng, h.nodes, h.low, hb, h.above, h.roots.move fun b hb => hf b (by simp [hb]), h.map.move (hf m (by simp)),
  fun x hx => (h.runs x hx).move fun b hb => hf b (by
   have : b ∈ entsF L := List.mem_flatMap.2 ⟨x, hx, hb⟩
   simp [this]), h.perm, h.asc, h.foot, h.nodup⟩
/-- what has turned lies elsewhere -/
theorem EngX.other {G : List Nat} (h : EngX lo w W roots R e F m nv rv L Fr W0 tN tS tC) (hg : MFr G w w') (hd : ∀ b ∈ F, b ∉ G) (hG : ∀ b ∈ G, lo ≤ b) : EngX lo w' W roots R e F m nv rv L Fr W0 tN tS tC :=
 h.move (fun b hb => hg.block b (h.lt b hb) (hd b hb)) (hg.below0 hG h.low h.below)
theorem Eng.other {G : List Nat} (h : Eng lo w W roots R e F) (hg : MFr G w w') (hd : ∀ b ∈ F, b ∉ G) (hG : ∀ b ∈ G, lo ≤ b) : Eng lo w' W roots R e F := by
 obtain ⟨m, nv, rv, L, Fr, W0, tN, tS, tC, h⟩ := h; exact ⟨m, nv, rv, L, Fr, W0, tN, tS, tC, h.other hg hd hG⟩
theorem EngX.later (h : EngX lo w W roots R e F m nv rv L Fr W0 tN tS tC) (hb : Below w.heap.size w w') : EngX lo w' W roots R e F m nv rv L Fr W0 tN tS tC := h.other (G := []) (MFr.of_below hb) (by simp) (by simp)
theorem Eng.later (h : Eng lo w W roots R e F) (hb : Below w.heap.size w w') : Eng lo w' W roots R e F := h.other (G := []) (MFr.of_below hb) (by simp) (by simp)
theorem Eng.asc (h : Eng lo w W roots R e F) : AscR R := by
 obtain ⟨m, nv, rv, L, Fr, W0, tN, tS, tC, h⟩ := h; exact h.asc
/-- the engine's own cells -/
theorem EngX.cells (h : EngX lo w W roots R e F m nv rv L Fr W0 tN tS tC) : ∃ A c B d, nv = .slice A W.Nodes.length c ∧ rv = .slice B roots.length d ∧ W.Nodes.length ≤ c ∧ roots.length ≤ d ∧ w.cell? ⟨e, 0, none⟩ = some (.slice A W.Nodes.length c) ∧ w.cell? ⟨e, 1, none⟩ = some (.slice B roots.length d) ∧ w.cell? ⟨e, 2, none⟩ = some (.map (some m)) := by
 obtain ⟨A, c, rfl, hc, _⟩ := rep_len h.nodes
 obtain ⟨B, d, rfl, hd, _⟩ := own_slice h.roots
 exact ⟨A, c, B, d, rfl, rfl, hc, hd, cellOf h.eng rfl, cellOf h.eng rfl, cellOf h.eng rfl⟩
theorem EngX.web (h : EngX lo w W roots R e F m nv rv L Fr W0 tN tS tC) : rep w (NodesT tN tS tC W.Nodes) nv := h.nodes.below h.below
theorem EngX.reps (h : EngX lo w W roots R e F m nv rv L Fr W0 tN tS tC) : reps w (W.c tN tS tC) [nv] := by
 simp only [Web.c, M.reps]; exact ⟨nv, [], rfl, h.web, rfl⟩
theorem EngX.names (h : EngX lo w W roots R e F m nv rv L Fr W0 tN tS tC) : (L.map fun x => x.r.Name).Nodup := by
 have h1 := h.asc.nodup
 have h2 := h.perm.map Run.Name
 rw [List.map_map] at h2
 exact h2.nodup_iff.1 h1
theorem EngX.look_some (h : EngX lo w W roots R e F m nv rv L Fr W0 tN tS tC) {q : ByteArray} {r : Run} (hr : runOf R q = some r) : ∃ x ∈ L, x.r = r ∧ lookC (ptrC L) q = some (.pointer (some ⟨x.b, 0, none⟩)) := by
 obtain ⟨h1, h2⟩ := runOf_some hr
 obtain ⟨x, hx, rfl⟩ := List.mem_map.1 (h.perm.mem_iff.1 h1)
 refine ⟨x, hx, rfl, lookC_mem ?_ ?_⟩
 ·unfold ptrC
  rw [List.map_map]
  exact h.names
 ·rw [← h2]; exact List.mem_map.2 ⟨x, hx, rfl⟩
theorem EngX.look_none (h : EngX lo w W roots R e F m nv rv L Fr W0 tN tS tC) {q : ByteArray} (hr : runOf R q = none) : lookC (ptrC L) q = none := by
 rw [lookC_none]
 intro p hp
 obtain ⟨x, hx, rfl⟩ := List.mem_map.1 hp
 exact runOf_none.1 hr x.r (h.perm.mem_iff.2 (List.mem_map.2 ⟨x, hx, rfl⟩))
theorem Perm_insR (r : Run) : ∀ (R : List Run), (insR r R).Perm (r :: R)
 | [] => List.Perm.refl _
 | x :: R => by
  unfold insR
  split
  ·exact List.Perm.refl _
  ·exact ((Perm_insR r R).cons x).trans (List.Perm.swap _ _ _)
theorem entsF_append (L M : List Ent) : entsF (L ++ M) = entsF L ++ entsF M := by unfold entsF; rw [List.flatMap_append]
/-- a new run -/
theorem EngX.ins (h : EngX lo w W roots R e F m nv rv L Fr W0 tN tS tC) {q : ByteArray} (hq : runOf R q = none) {b : Nat} (hb : w'.heap[b]? = some (.cells (runCells (newRun q) (.slice none 0 0)) 84 (0, 0))) (hbl : w.heap.size ≤ b)
  (hM : MapAt w' m (putC (ptrC L) q (.pointer (some ⟨b, 0, none⟩)))) (hf : MFr [m] w w') : Eng lo w' W roots (insR (newRun q) R) e (F ++ [b]) ∧ MFr F w w' := by
 have hmF : m ∈ F := by rw [h.foot]; simp
 have hlt := h.lt
 have hne : ∀ k ∈ F, k ≠ m → w'.heap[k]? = w.heap[k]? := fun k hk hkm => hf.block k (hlt k hk) (by simpa using hkm)
 have hnd := h.nodup
 rw [h.foot] at hnd
 obtain ⟨n1, n2⟩ := List.nodup_cons.1 hnd
 obtain ⟨n3, n4⟩ := List.nodup_cons.1 n2
 have hbF : b ∉ F := fun hk => by have := hlt b hk; omega
 have hput : putC (ptrC L) q (.pointer (some ⟨b, 0, none⟩)) = ptrC (L ++ [⟨newRun q, b, .slice none 0 0, []⟩]) := by
  unfold putC
  rw [h.look_none hq]
  simp [ptrC, ptrP, newRun]
 refine ⟨⟨m, nv, rv, L ++ [⟨newRun q, b, .slice none 0 0, []⟩], Fr, W0, tN, tS, tC, ?_, h.nodes, h.low, ?_, ?_, ?_, hput ▸ hM, ?_, ?_, ?_, ?_, ?_⟩, hf.mono (fun k hk => by simp at hk; rw [hk]; exact hmF)⟩
 ·exact (hne e (by rw [h.foot]; simp) (fun e1 => n1 (by rw [e1]; simp))).trans h.eng
 ·exact hf.below0 (fun k hk => by simp at hk; rw [hk]; exact h.above m hmF) h.low h.below
 ·intro k hk
  rcases List.mem_append.1 hk with hk | hk
  ·exact h.above k hk
  ·simp at hk; rw [hk]; exact Nat.le_trans (Nat.le_of_lt (Nat.lt_of_le_of_lt (h.above m hmF) (hlt m hmF))) hbl
 ·exact h.roots.move fun k hk => hne k (by rw [h.foot]; simp [hk]) (fun e1 => n3 (by rw [← e1]; simp [hk]))
 ·intro x hx
  rcases List.mem_append.1 hx with hx | hx
  ·exact (h.runs x hx).move fun k hk => by
    have : k ∈ entsF L := List.mem_flatMap.2 ⟨x, hx, hk⟩
    exact hne k (by rw [h.foot]; simp [this]) (fun e1 => n3 (by rw [← e1]; simp [this]))
  ·simp at hx; subst hx
   exact ⟨hb, own_nil _ _ _⟩
 ·refine (Perm_insR _ _).trans ?_
  rw [List.map_append]
  exact (h.perm.cons _).trans (List.perm_append_singleton _ _).symm
 ·exact insR_asc h.asc (fun x hx => runOf_none.1 hq x hx)
 ·rw [h.foot, entsF_append]
  simp [entsF, entF]
 ·exact nod2 h.nodup (by simp) (fun k hk hk' => by simp at hk'; rw [hk'] at hk; exact hbF hk)
theorem setR_perm {R S : List Run} (h : R.Perm S) (r : Run) : (setR r R).Perm (setR r S) := h.map _
theorem mem_foot (h : EngX lo w W roots R e F m nv rv L Fr W0 tN tS tC) {x : Ent} (hx : x ∈ L) : ∀ b ∈ entF x, b ∈ F := by
 intro b hb
 rw [h.foot]
 have : b ∈ entsF L := List.mem_flatMap.2 ⟨x, hx, hb⟩
 simp [this]
theorem flatMap_nodup_apart : ∀ {L : List Ent} {x y : Ent}, (entsF L).Nodup → x ∈ L → y ∈ L → x ≠ y → ∀ b ∈ entF x, b ∉ entF y
 | a :: L, x, y, hn, hx, hy, hne, b, hb, hb' => by
  unfold entsF at hn
  rw [List.flatMap_cons] at hn
  obtain ⟨n1, n2, n3⟩ := List.nodup_append.1 hn
  rcases List.mem_cons.1 hx with hx1 | hx1
  ·rcases List.mem_cons.1 hy with hy1 | hy1
   ·exact hne (hx1.trans hy1.symm)
   ·exact n3 b (hx1 ▸ hb) b (List.mem_flatMap.2 ⟨y, hy1, hb'⟩) rfl
  ·rcases List.mem_cons.1 hy with hy1 | hy1
   ·exact n3 b (hy1 ▸ hb') b (List.mem_flatMap.2 ⟨x, hx1, hb⟩) rfl
   ·exact flatMap_nodup_apart n2 hx1 hy1 hne b hb hb'
/-- the entries with that of r' anew -/
def setL (y : Ent) (L : List Ent) : List Ent := L.map fun x => if rIs y.r.Name x.r then y else x
theorem mem_setL {x y : Ent} {L : List Ent} (h : x ∈ setL y L) : x = y ∨ (x ∈ L ∧ x.r.Name ≠ y.r.Name) := by
 unfold setL at h
 obtain ⟨z, hz, rfl⟩ := List.mem_map.1 h
 by_cases e : z.r.Name = y.r.Name
 ·rw [(rIs_iff _ _).2 e]; exact .inl rfl
 ·rw [rIs_ne e]; exact .inr ⟨hz, e⟩
theorem setL_split : ∀ {L : List Ent} {x : Ent} (y : Ent), x ∈ L → (L.map fun z => z.r.Name).Nodup → x.r.Name = y.r.Name → ∃ A B, L = A ++ x :: B ∧ setL y L = A ++ y :: B
 | a :: L, x, y, hx, hn, he => by
  rw [List.map_cons, List.nodup_cons] at hn
  rcases List.mem_cons.1 hx with rfl | hx
  ·refine ⟨[], L, rfl, ?_⟩
   unfold setL
   rw [List.map_cons, (rIs_iff _ _).2 he, if_pos rfl]
   congr 1
   conv => rhs; rw [← List.map_id L]
   apply List.map_congr_left
   intro z hz
   rw [rIs_ne (fun e => hn.1 (by rw [he, ← e]; exact List.mem_map.2 ⟨z, hz, rfl⟩))]; rfl
  ·obtain ⟨A, B, rfl, h2⟩ := setL_split y hx hn.2 he
   refine ⟨a :: A, B, rfl, ?_⟩
   unfold setL at h2 ⊢
   rw [List.map_cons, h2, rIs_ne (fun e => hn.1 (by rw [e, ← he]; exact List.mem_map.2 ⟨x, by simp, rfl⟩))]
   rfl
/-- a run anew, in its block -/
theorem EngX.put (h : EngX lo w W roots R e F m nv rv L Fr W0 tN tS tC) {x y : Ent} (hx : x ∈ L) (hn : y.r.Name = x.r.Name) (hb : y.b = x.b) (hR : RunAt w' y) (hG : y.G.Nodup) (hGs : ∀ k ∈ y.G, k ∈ x.G ∨ w.heap.size ≤ k)
  (hf : MFr (entF x) w w') : Eng lo w' W roots (setR y.r R) e (e :: m :: (Fr ++ entsF (setL y L))) ∧ MFr F w w' ∧ ∀ k ∈ e :: m :: (Fr ++ entsF (setL y L)), k ∈ F ∨ w.heap.size ≤ k := by
 have hlt := h.lt
 have hxF := mem_foot h hx
 have hnd := h.nodup
 rw [h.foot] at hnd
 obtain ⟨n1, n2⟩ := List.nodup_cons.1 hnd
 obtain ⟨n3, n4⟩ := List.nodup_cons.1 n2
 obtain ⟨n5, n6, n7⟩ := List.nodup_append.1 n4
 have hxs : ∀ b ∈ entF x, b ∈ entsF L := fun b hb => List.mem_flatMap.2 ⟨x, hx, hb⟩
 have hne : ∀ k ∈ F, k ∉ entF x → w'.heap[k]? = w.heap[k]? := fun k hk hkm => hf.block k (hlt k hk) hkm
 obtain ⟨A, B, hL, hS⟩ := setL_split y hx h.names hn.symm
 have hbx : x.b ∉ y.G := fun hk => by
  rcases hGs _ hk with hk' | hk'
  ·have : (entF x).Nodup := by
    rw [hL] at n6
    rw [entsF_append] at n6
    have := (List.nodup_append.1 n6).2.1
    unfold entsF at this
    rw [List.flatMap_cons] at this
    exact (List.nodup_append.1 this).1
   exact (List.nodup_cons.1 this).1 hk'
  ·have := hlt x.b (hxF _ (List.mem_cons_self ..)); omega
 have hyn : (entF y).Nodup := List.nodup_cons.2 ⟨hb ▸ hbx, hG⟩
 have hys : ∀ k ∈ entF y, k ∈ entF x ∨ w.heap.size ≤ k := by
  intro k hk
  rcases List.mem_cons.1 hk with rfl | hk
  ·rw [hb]; exact .inl (List.mem_cons_self ..)
  ·exact (hGs k hk).imp (List.mem_cons_of_mem _) id
 have hall : ∀ k ∈ e :: m :: (Fr ++ entsF (setL y L)), k ∈ F ∨ w.heap.size ≤ k := by
  intro k hk
  rw [hS, entsF_append] at hk
  have hk2 : k ∈ e :: m :: (Fr ++ entsF L) ∨ k ∈ entF y := by
   rw [hL, entsF_append]
   unfold entsF at hk ⊢
   rw [List.flatMap_cons] at hk ⊢
   simp only [List.mem_cons, List.mem_append] at hk ⊢
   rcases hk with h | h | h | h | h | h
   ·exact .inl (.inl h)
   ·exact .inl (.inr (.inl h))
   ·exact .inl (.inr (.inr (.inl h)))
   ·exact .inl (.inr (.inr (.inr (.inl h))))
   ·exact .inr h
   ·exact .inl (.inr (.inr (.inr (.inr (.inr h)))))
  rcases hk2 with hk2 | hk2
  ·exact .inl (h.foot ▸ hk2)
  ·rcases hys k hk2 with hk3 | hk3
   ·exact .inl (hxF k hk3)
   ·exact .inr hk3
 refine ⟨⟨m, nv, rv, setL y L, Fr, W0, tN, tS, tC, ?_, h.nodes, h.low, ?_, ?_, ?_, ?_, ?_, ?_, ?_, rfl, ?_⟩, hf.mono hxF, hall⟩
 ·exact (hne e (by rw [h.foot]; simp) (fun hk => n1 (by simp [hxs e hk]))).trans h.eng
 ·exact hf.below0 (fun k hk => h.above k (hxF k hk)) h.low h.below
 ·intro k hk
  rcases hall k hk with hk | hk
  ·exact h.above k hk
  ·have := h.above e (by rw [h.foot]; simp)
   have := hlt e (by rw [h.foot]; simp)
   omega
 ·exact h.roots.move fun k hk => hne k (by rw [h.foot]; simp [hk]) (fun hk' => n7 k hk k (hxs k hk') rfl)
 ·have : ptrC (setL y L) = ptrC L := by
   rw [hS, hL]
   simp [ptrC, ptrP, hn, hb]
  rw [this]
  exact h.map.move (hne m (by rw [h.foot]; simp) (fun hk => n3 (by simp [hxs m hk])))
 ·intro z hz
  rcases mem_setL hz with rfl | ⟨hz, hzn⟩
  ·exact hR
  ·exact (h.runs z hz).move fun k hk => hne k (mem_foot h hz k hk) (flatMap_nodup_apart n6 hz hx (fun e1 => hzn (by rw [e1, hn])) k hk)
 ·have : (setL y L).map Ent.r = setR y.r (L.map Ent.r) := by
   unfold setL setR
   rw [List.map_map, List.map_map]
   apply List.map_congr_left
   intro z _
   simp only [Function.comp]
   split <;> rfl
  rw [this]
  exact setR_perm h.perm _
 ·exact setR_asc h.asc
 ·rw [hS, entsF_append]
  rw [hL, entsF_append] at n6 n1 n3 n7
  unfold entsF at n6 n1 n3 n7 ⊢
  rw [List.flatMap_cons] at n6 n1 n3 n7 ⊢
  obtain ⟨a1, a2, a3⟩ := List.nodup_append.1 n6
  obtain ⟨b1, b2, b3⟩ := List.nodup_append.1 a2
  have old : ∀ k ∈ entF y, ∀ (S : List Nat), (∀ j ∈ S, j < w.heap.size) → (∀ j ∈ S, j ∉ entF x) → k ∉ S := by
   intro k hk S hS1 hS2 hkS
   rcases hys k hk with hk' | hk'
   ·exact hS2 k hkS hk'
   ·have := hS1 k hkS; omega
  have hA : ∀ j ∈ List.flatMap entF A, j < w.heap.size := fun j hj => hlt j (by rw [h.foot, hL]; unfold entsF; rw [List.flatMap_append]; simp [hj])
  have hB : ∀ j ∈ List.flatMap entF B, j < w.heap.size := fun j hj => hlt j (by rw [h.foot, hL]; unfold entsF; rw [List.flatMap_append, List.flatMap_cons]; simp [hj])
  have hF1 : ∀ j ∈ Fr, j < w.heap.size := fun j hj => hlt j (by rw [h.foot]; simp [hj])
  have he1 : e < w.heap.size := hlt e (by rw [h.foot]; simp)
  have hm1 : m < w.heap.size := hlt m (by rw [h.foot]; simp)
  have kA := fun k hk => old k hk _ hA (fun j hj hj' => a3 j hj j (by simp [hj']) rfl)
  have kB := fun k hk => old k hk _ hB (fun j hj hj' => b3 j hj' j hj rfl)
  have kF := fun k hk => old k hk _ hF1 (fun j hj hj' => n7 j hj j (by simp [hj']) rfl)
  have ke : e ∉ entF y := fun hk => old e hk [e] (fun j hj => by simp at hj; rw [hj]; exact he1) (fun j hj hj' => by simp at hj; rw [hj] at hj'; exact n1 (by simp [hj'])) (by simp)
  have km : m ∉ entF y := fun hk => old m hk [m] (fun j hj => by simp at hj; rw [hj]; exact hm1) (fun j hj hj' => by simp at hj; rw [hj] at hj'; exact n3 (by simp [hj'])) (by simp)
  refine List.nodup_cons.2 ⟨fun hk => ?_, List.nodup_cons.2 ⟨fun hk => ?_, nod2 n5 (nod2 a1 (nod2 hyn b2 (fun k hk hk' => kB k hk hk')) (fun k hk hk' => ?_)) (fun k hk hk' => ?_)⟩⟩
  ·simp only [List.mem_cons, List.mem_append] at hk n1
   rcases hk with hk | hk | hk | hk | hk
   ·exact n1 (.inl hk)
   ·exact n1 (.inr (.inl hk))
   ·exact n1 (.inr (.inr (.inl hk)))
   ·exact ke hk
   ·exact n1 (.inr (.inr (.inr (.inr hk))))
  ·simp only [List.mem_cons, List.mem_append] at hk n3
   rcases hk with hk | hk | hk | hk
   ·exact n3 (.inl hk)
   ·exact n3 (.inr (.inl hk))
   ·exact km hk
   ·exact n3 (.inr (.inr (.inr hk)))
  ·rcases List.mem_append.1 hk' with hk' | hk'
   ·exact kA k hk' hk
   ·exact a3 k hk k (by simp [hk']) rfl
  ·rcases List.mem_append.1 hk' with hk' | hk'
   ·exact n7 k hk k (by simp [hk']) rfl
   ·rcases List.mem_append.1 hk' with hk' | hk'
    ·exact kF k hk' hk
    ·exact n7 k hk k (by simp [hk']) rfl
end
/-- what a call leaves that turns the engine -/
def EngP (lo : Nat) (W : Web) (roots : List ByteArray) (R : List Run) (e : Nat) (F : List Nat) (w w' : World) : Prop := ∃ F', Eng lo w' W roots R e F' ∧ MFr F w w' ∧ ∀ k ∈ F', k ∈ F ∨ w.heap.size ≤ k
theorem EngP.same {lo : Nat} {w w' : World} {W : Web} {roots : List ByteArray} {R : List Run} {e : Nat} {F : List Nat} (h : Eng lo w W roots R e F) (hb : Below w.heap.size w w') : EngP lo W roots R e F w w' :=
 ⟨F, h.later hb, MFr.of_below hb, fun k hk => .inl hk⟩
theorem EngP.trans {lo : Nat} {w w1 w2 : World} {W : Web} {roots : List ByteArray} {R : List Run} {e : Nat} {F F1 : List Nat} (hm : MFr F w w1) (hs : ∀ k ∈ F1, k ∈ F ∨ w.heap.size ≤ k) (h : EngP lo W roots R e F1 w1 w2) : EngP lo W roots R e F w w2 := by
  obtain ⟨F2, h1, h2, h3⟩ := h
  refine ⟨F2, h1, ⟨h2.os.trans hm.os, h2.tape.trans hm.tape, h2.output.trans hm.output, Nat.le_trans hm.size h2.size, fun b hb hn => ?_⟩, fun k hk => ?_⟩
  · exact (h2.block b (Nat.lt_of_lt_of_le hb hm.size) (fun hf => by rcases hs b hf with h | h; · exact hn h
                                                                    · omega)).trans (hm.block b hb hn)
  · rcases h3 k hk with h | h
    · exact hs k h
    · exact .inr (Nat.le_trans hm.size h)
end Go.Proofs.YtkpkfihaihoaeaaGreatDoor.M
end
section
set_option linter.unusedVariables false
set_option linter.unusedSimpArgs false
namespace Go.Proofs.YtkpkfihaihoaeaaGreatDoor.M
open Go.RowKit
open Go.Sort
theorem asc_unique : ∀ {xs ys : List ByteArray}, xs.Perm ys → xs.Pairwise (fun a b => ltS b a = false) → Asc ys → xs = ys
 | [], ys, h, _, _ => by rw [List.Perm.nil_eq h]
 | x :: xs, [], h, _, _ => by simpa using h.length_eq
 | x :: xs, y :: ys, h, hx, hy => by
  obtain ⟨h1, h2⟩ := List.pairwise_cons.1 hx
  obtain ⟨k1, k2⟩ := List.pairwise_cons.1 hy
  have e : x = y := by
   have hxm : x ∈ y :: ys := h.mem_iff.1 (List.mem_cons_self ..)
   have hym : y ∈ x :: xs := h.mem_iff.2 (List.mem_cons_self ..)
   rcases List.mem_cons.1 hxm with e | hxm
   ·exact e
   ·rcases List.mem_cons.1 hym with e | hym
    ·exact e.symm
    ·have a := h1 y hym
     rw [k1 x hxm] at a; cases a
  subst e
  rw [asc_unique ((List.perm_cons _).1 h) h2 k2]
theorem sorted_eq {xs ys : List ByteArray} (hp : xs.Perm ys) (ha : Asc ys) : ((xs.map (·.data.toList)).mergeSort fun x y => decide (x ≤ y)).map (fun l => (⟨l.toArray⟩ : ByteArray)) = ys := by
 have hback : ∀ l : List ByteArray, (l.map (·.data.toList)).map (fun l => (⟨l.toArray⟩ : ByteArray)) = l := by
  intro l; rw [List.map_map]
  conv => rhs; rw [← List.map_id l]
  apply List.map_congr_left
  intro x _; simp
 have hperm := List.mergeSort_perm (xs.map (·.data.toList)) (fun x y => decide (x ≤ y))
 have hsort : ((xs.map (·.data.toList)).mergeSort fun x y => decide (x ≤ y)).Pairwise (fun x y => decide (x ≤ y) = true) := by
  apply List.pairwise_mergeSort
  ·intro a b c h1 h2
   simp only [decide_eq_true_eq] at h1 h2 ⊢
   exact List.le_trans h1 h2
  ·intro a b
   rcases List.le_total a b with h | h <;> simp [h]
 refine asc_unique ?_ ?_ ha
 ·have := hperm.map (fun l => (⟨l.toArray⟩ : ByteArray))
  rw [hback] at this
  exact this.trans hp
 ·rw [List.pairwise_map]
  refine hsort.imp fun {a b} h => ?_
  rw [ltS_not]
  simp only [decide_eq_true_eq] at h
  simpa [ByteArray.toList_eq] using h
theorem strs_owns {w : World} : ∀ {xs : List ByteArray} {vs : List Value} {G : List Nat}, owns w (xs.flatMap strC) vs G → vs = xs.map Value.string ∧ G = []
 | [], vs, G, h => by simp only [List.flatMap_nil, owns] at h; exact ⟨by simpa using h.1, h.2⟩
 | x :: xs, vs, G, h => by
  simp only [List.flatMap_cons, strC, List.singleton_append, owns] at h
  obtain ⟨v, us, F1, F2, rfl, h1, h2, rfl⟩ := h
  simp only [own] at h1
  obtain ⟨rfl, rfl⟩ := h1
  obtain ⟨rfl, rfl⟩ := strs_owns h2
  exact ⟨rfl, rfl⟩
theorem owns_strs (w : World) : ∀ (xs : List ByteArray), owns w (xs.flatMap strC) (xs.map Value.string) []
 | [] => by simp [owns]
 | x :: xs => by
  simp only [List.flatMap_cons, strC, List.singleton_append, owns, List.map_cons]
  exact ⟨_, _, [], [], rfl, own_s _ _, owns_strs w xs, rfl⟩
theorem Strings_calls (xs ys : List ByteArray) (v : Value) (F : List Nat) (w : World) (h : own w (strsT 9 xs) v F) (hp : xs.Perm ys) (ha : Asc ys) (hn : xs.length ≤ 1000000) :
  Calls Tryz.prog 108 #[v] w fun e w' => e = .returned (.tuple #[]) ∧ own w' (strsT 9 ys) v F ∧ MFr F w w' := by
 have h' := h
 simp only [strsT, tl, own] at h
 rcases h with ⟨vs, G, ho, hr, rfl, hng⟩ | ⟨h0, hc, rfl, A, rfl⟩
 ·obtain ⟨rfl, rfl⟩ := strs_owns hr
  rcases ho.2 with ⟨hv, h0⟩ | ⟨g, cap, cur, rfl, hbase, hb, h1, h2, h3, h4⟩
  ·have hx : xs = [] := by simpa using h0
   subst hx
   have hy : ys = [] := by simpa using hp.length_eq.symm
   subst hy
   subst hv
   exact (Tryz.sort_Strings_none none 0 w).mono fun e w' ⟨he, hw⟩ => ⟨he, hw ▸ h', hw ▸ MFr.refl _ _⟩
  ·have hlen : (xs.map (·.data.toList)).length = xs.length := by simp
   have hcells : cur.toList.take (xs.map (·.data.toList)).length = (xs.map (·.data.toList)).map encStr := by
    rw [hlen]
    have : cur.toList.take xs.length = xs.map Value.string := by simpa using h4
    rw [this, List.map_map]
    apply List.map_congr_left
    intro x _; rfl
   have hH := holds_of_block hb hcells
   have hg : g < w.heap.size := lt_of_heap hb
   have hc := Tryz.sort_Strings g 0 cap (xs.map (·.data.toList)) w hH hg (by rw [hlen]; omega)
   rw [hlen] at hc
   refine hc.mono ?_
   rintro e w' ⟨rfl, nn, os, rfl⟩
   have hs := sorted_eq hp ha
   have hsl : ((xs.map (·.data.toList)).mergeSort fun x y => decide (x ≤ y)).length = (xs.map (·.data.toList)).length := List.length_mergeSort _
   have hrow := ownsRow_sorted (w := w) (base := 0) (n := nn) (e := 9) (os := os) hsl (Nat.zero_le _) hb (by rw [hlen]; exact h1) h2 h3
   have hgr := grownBy_sorted (w := w) (g := g) (n := nn) (os := os) ((xs.map (·.data.toList)).mergeSort fun x y => decide (x ≤ y)).toArray
   refine ⟨rfl, ?_, ⟨hgr.os, hgr.tape, hgr.output, hgr.size, fun b hb hn => hgr.block b hb (fun e => hn (by simp [Value.ownBlock]; simpa using e))⟩⟩
   have hyl : ys.length = xs.length := hp.length_eq.symm
   unfold strsT tl own
   refine .inl ⟨ys.map Value.string, [], ?_, owns_strs _ ys, by simp [Value.ownBlock], fun k _ hk => by cases hk⟩
   have e1 : ((xs.map (·.data.toList)).mergeSort fun x y => decide (x ≤ y)).map encStr = ys.map Value.string := by
    rw [← hs, List.map_map]
    apply List.map_congr_left
    intro x _; rfl
   rw [e1, hlen, ← hyl] at hrow
   rw [← hyl]
   exact hrow
 ·have hx : xs = [] := List.eq_nil_of_length_eq_zero h0
  subst hx
  have hy : ys = [] := by simpa using hp.length_eq.symm
  subst hy
  exact (Tryz.sort_Strings_none (some A) 0 w).mono fun e w' ⟨he, hw⟩ => ⟨he, hw ▸ h', hw ▸ MFr.refl _ _⟩
end Go.Proofs.YtkpkfihaihoaeaaGreatDoor.M
end
section
set_option linter.unusedVariables false
set_option linter.unusedSimpArgs false
namespace Go.Proofs.YtkpkfihaihoaeaaGreatDoor.M
open Go.RowKit
/-- what the search hands back: the first place from which the test holds -/
def SrchPost (p : Nat → Bool) (n : Nat) (w : World) (e : Ending) (w' : World) : Prop := ∃ k : Nat, k ≤ n ∧ (∀ t, t < k → p t = false) ∧ (∀ t, k ≤ t → t < n → p t = true) ∧ e = .returned (.int .i64 k) ∧ Below w.heap.size w w'
def SrchInv (p : Nat → Bool) (n lo hi : Nat) : Prop := (∀ t, t < lo → p t = false) ∧ (∀ t, hi ≤ t → t < n → p t = true)
set_option maxHeartbeats 1000000 in
theorem Search_calls (g : Nat) (cb : Array Value) (n : Nat) (p : Nat → Bool) (w : World) (eg : ∀ args w, (callFunc g args).run Tryz.prog w = .ok (.enter g args) w) (hsz : n < 4611686018427387904)
    (hf : ∀ W, Below w.heap.size w W → ∀ i : Nat, i < n → Calls Tryz.prog g (#[.int .i64 i] ++ cb) W fun e w' => e = .returned (.bool (p i)) ∧ Below W.heap.size W w')
    (hmono : ∀ a b, a ≤ b → b < n → p a = true → p b = true) :
    Calls Tryz.prog 187 #[.int .i64 n, .func (.func g) #[] cb] w (SrchPost p n w) := by
  have HF := Asd.mk hf
  have M := Asd.mk hmono
  clear hf hmono
  go_enter Tryz.func187, Tryz.ntmps187
  go_wp2
  go_loopg [5, 6] n (fun kx s5 s6 wr => ∃ (lo hi : Nat), s5 = .int .i64 lo ∧ s6 = .int .i64 hi ∧ lo ≤ hi ∧ hi ≤ n ∧ hi - lo ≤ kx ∧ Below w.heap.size w wr ∧ SrchInv p n lo hi)
  case atStart => exact ⟨0, n, rfl, rfl, Nat.zero_le _, Nat.le_refl _, by omega, Below.refl _ _, fun t ht => absurd ht (Nat.not_lt_zero _), fun t h1 h2 => by omega⟩
  case round =>
    obtain ⟨lo, hi, rfl, rfl, hlh, hin, hg, hbr, I⟩ := hrel
    by_cases hlt : lo < hi
    · have hc := HF.out wr hbr ((lo + hi) / 2) (by omega)
      rw [show (((lo + hi) / 2 : Nat) : Int) = ((lo : Int) + (hi : Int)) / 2 by omega] at hc
      cases hp : p ((lo + hi) / 2) <;> rw [hp] at hc
      · have I2 : SrchInv p n ((lo + hi) / 2 + 1) hi := ⟨fun t ht => (by
            cases h : p t with
            | false => rfl
            | true => have := M.out t ((lo + hi) / 2) (by omega) (by omega) h; rw [hp] at this; cases this), I.2⟩
        clear hp
        replace hbr := Asd.mk hbr
        go_wp2_with (go_at_fn g; refine hc.mono ?_; rintro e w' ⟨rfl, hb⟩)
        go_roundg (hi - ((lo + hi) / 2 + 1))
        case measure => omega
        case rel => exact ⟨(lo + hi) / 2 + 1, hi, by rw [show ((lo : Int) + (hi : Int)) / 2 + 1 = (((lo + hi) / 2 + 1 : Nat) : Int) by omega], rfl, by omega, hin, Nat.le_refl _, below_st hbr.out hb, I2⟩
      · have I2 : SrchInv p n lo ((lo + hi) / 2) := ⟨I.1, fun t ht htn => M.out ((lo + hi) / 2) t ht htn hp⟩
        clear hp
        replace hbr := Asd.mk hbr
        go_wp2_with (go_at_fn g; refine hc.mono ?_; rintro e w' ⟨rfl, hb⟩)
        go_roundg ((lo + hi) / 2 - lo)
        case measure => omega
        case rel => exact ⟨lo, (lo + hi) / 2, rfl, by rw [show ((lo : Int) + (hi : Int)) / 2 = (((lo + hi) / 2 : Nat) : Int) by omega], by omega, by omega, Nat.le_refl _, below_st hbr.out hb, I2⟩
    · obtain rfl : hi = lo := by omega
      have I := Asd.mk I
      go_wp2
      go_ret
      exact ⟨hi, hin, I.out.1, I.out.2, rfl, hbr⟩
set_option maxHeartbeats 1000000 in
theorem findF_calls {tN tS tC : Nat} (xs : List Node) (name : ByteArray) (A : Option Addr) (c bw bn i : Nat) (W : World) (h : rep W (NodesT tN tS tC xs) (.slice A xs.length c)) (hi : i < xs.length)
  (c0 : W.cell? ⟨bw, 0, none⟩ = some (.slice A xs.length c)) (c1 : W.cell? ⟨bn, 0, none⟩ = some (.string name)) :
  Calls Tryz.prog 188 (#[.int .i64 i] ++ #[.pointer (some ⟨bw, 0, none⟩), .pointer (some ⟨bn, 0, none⟩)]) W fun e w' => e = .returned (.bool (!ltS xs[i].Name name)) ∧ Below W.heap.size W w' := by
 obtain ⟨a, c', v2, he, k0, k1, k2, h2, hr⟩ := Node.elem h hi
 cases he
 clear h h2 hr k1 k2
 have hiz : (i : Int) < (xs.length : Int) := by omega
 go_enter Tryz.func188, Tryz.ntmps188
 go_wp2
 go_quiet (fail)
 go_wp2
 go_ret
 exact ⟨by rfl, below_dr (Below.refl _ _) _⟩
def geB (xs : List Node) (name : ByteArray) (i : Nat) : Bool := if h : i < xs.length then !ltS xs[i].Name name else true
theorem geB_at {xs : List Node} {name : ByteArray} {i : Nat} (h : i < xs.length) : geB xs name i = !ltS xs[i].Name name := by simp [geB, h]
def FindPost (xs : List Node) (name : ByteArray) (w : World) (e : Ending) (w' : World) : Prop := ∃ k : Nat, FindAt xs name k ∧ e = .returned (.tuple #[.int .i64 k, .bool (hasN xs name)]) ∧ Below w.heap.size w w'
set_option maxHeartbeats 1000000 in
theorem find_calls {tN tS tC : Nat} (x : Web) (name : ByteArray) (w : World) {vs : List Value} (h : reps w (x.c tN tS tC) vs) (ha : Asc (x.Nodes.map Node.Name)) (hn : x.Nodes.length ≤ 1000000) :
  Calls Tryz.prog 157 #[.agg vs.toArray, .string name] w (FindPost x.Nodes name w) := by
 obtain ⟨v0, rfl, h0⟩ := Web.ropen h
 obtain ⟨A, c, rfl, _, _⟩ := rep_len h0
 replace h0 := Asd.mk h0
 replace ha := Asd.mk ha
 clear h
 have e1 := enters_of Tryz.func188 (by kernel_rfl) rfl
 have hb0 : Below w.heap.size w ((w.alloc (.cells #[.slice A x.Nodes.length c] 34)).alloc (.cells #[.string name] 9)) := below_al (below_al (Below.refl _ _) _) _
 have HB := Asd.mk hb0
 have hmf : ∀ (fn : Fn) (first cap : Array Value) (w : World), (Instr.makeFunc fn first cap).run Tryz.prog w = .ok (.func fn first cap) w := fun _ _ _ _ => rfl
 clear hb0
 go_enter Tryz.func157, Tryz.ntmps157
 go_wp2_with fail
 refine (Search_calls 188 #[.pointer (some ⟨w.heap.size, 0, none⟩), .pointer (some ⟨w.heap.size + 1, 0, none⟩)] x.Nodes.length (geB x.Nodes name) _ e1 (by omega) (fun W hW i hi => ?_) (fun a b hab hb h => ?_)).mono ?_
 ·refine (findF_calls x.Nodes name A c _ _ i W (h0.out.below (below_st HB.out hW)) hi ?_ ?_).mono ?_
  ·rw [hW.cell (by first | (simp; done) | (simp; omega))]; go_simp
  ·rw [hW.cell (by first | (simp; done) | (simp; omega))]; go_simp
  ·rintro e w' ⟨rfl, hb⟩
   exact ⟨by rw [geB_at hi], hb⟩
 ·rw [geB_at hb, Bool.not_eq_true']
  rw [geB_at (show a < x.Nodes.length by omega), Bool.not_eq_true'] at h
  exact asc_ge ha.out name hab hb h
 rintro e w1 ⟨k, hk, p1, p2, rfl, hb⟩
 have hF : FindAt x.Nodes name k := ⟨hk, fun i hi hik => by have := p1 i hik; rw [geB_at hi] at this; simpa using this, fun i hi hik => by have := p2 i hik hi; rw [geB_at hi] at this; simpa using this⟩
 have HW := Asd.mk (below_st HB.out hb)
 obtain ⟨hcx, hfx⟩ := bcell hb
 have hzz : w.heap.size + 1 < w1.heap.size := by have := hb.size; simp at this; omega
 clear hb p1 p2 e1
 by_cases hlt : k < x.Nodes.length
 ·obtain ⟨a, c', v2, he, k0, k1, k2, h2, hr⟩ := Node.elem (h0.out.below HW.out) hlt
  cases he
  clear h2 hr k1 k2
  have hiz : (k : Int) < (x.Nodes.length : Int) := by omega
  have ht := hF.there ha.out
  by_cases hq : (x.Nodes[k].Name.toList == name.toList) = true
  ·have hT := Asd.mk (show hasN x.Nodes name = true from ht.2 ⟨hlt, (ba_eq _ _).1 hq⟩)
   clear ht
   replace hF := Asd.mk hF
   go_wp2
   go_quiet (fail)
   go_wp2
   go_ret2
   exact ⟨k, hF.out, by rw [hT.out]; rfl, below_dr HW.out _⟩
  ·have hT := Asd.mk (show hasN x.Nodes name = false from Bool.eq_false_iff.2 (fun h => by obtain ⟨_, e⟩ := ht.1 h; exact hq ((ba_eq _ _).2 e)))
   clear ht
   replace hq := Bool.eq_false_iff.2 hq
   replace hF := Asd.mk hF
   go_wp2
   go_quiet (fail)
   go_wp2
   go_ret2
   exact ⟨k, hF.out, by rw [hT.out]; rfl, below_dr HW.out _⟩
 ·have hiz : ¬(k : Int) < (x.Nodes.length : Int) := by omega
  have hT := Asd.mk (show hasN x.Nodes name = false from Bool.eq_false_iff.2 (fun h => by obtain ⟨h, _⟩ := (hF.there ha.out).1 h; exact hlt h))
  replace hF := Asd.mk hF
  go_wp2
  go_quiet (fail)
  go_wp2
  go_ret2
  exact ⟨k, hF.out, by rw [hT.out]; rfl, below_dr HW.out _⟩
end Go.Proofs.YtkpkfihaihoaeaaGreatDoor.M
end
section
set_option linter.unusedVariables false
set_option linter.unusedSimpArgs false
namespace Go.Proofs.YtkpkfihaihoaeaaGreatDoor.M
open Go.RowKit
open Go.ChangeMaps (setBlock)
theorem zero_runP (w : World) : (zeroValue 122).run Tryz.prog w = .ok (.pointer none) w := by kernel_rfl
section
variable {lo : Nat} {w : World} {W : Web} {roots : List ByteArray} {R : List Run} {e : Nat} {F : List Nat} {m : Nat} {nv rv : Value} {L : List Ent} {Fr : List Nat} {W0 : World} {tN tS tC : Nat}
theorem EngX.run_none (h : EngX lo w W roots R e F m nv rv L Fr W0 tN tS tC) {q : ByteArray} (hq : runOf R q = none) : (Instr.lookup 123 (.map (some m)) (.string q) false).run Tryz.prog w = .ok (.pointer none) w := by
 have := h.map.look (Pg := Tryz.prog) Tryz.underlying123 Tryz.underlying9 (zero_runP w) q false
 rw [h.look_none hq] at this
 exact this
theorem EngX.run_some (h : EngX lo w W roots R e F m nv rv L Fr W0 tN tS tC) {q : ByteArray} {r : Run} (hq : runOf R q = some r) : ∃ x ∈ L, x.r = r ∧ (Instr.lookup 123 (.map (some m)) (.string q) false).run Tryz.prog w = .ok (.pointer (some ⟨x.b, 0, none⟩)) w := by
 have := h.map.look (Pg := Tryz.prog) Tryz.underlying123 Tryz.underlying9 (zero_runP w) q false
 obtain ⟨x, hx, hr, hl⟩ := h.look_some hq
 rw [hl] at this
 exact ⟨x, hx, hr, this⟩
end
set_option maxRecDepth 100000 in
set_option maxHeartbeats 2000000 in
theorem want_calls {lo : Nat} (W : Web) (roots : List ByteArray) (R : List Run) (e : Nat) (F : List Nat) (q : ByteArray) (w : World) (h : Eng lo w W roots R e F) (ha : Asc (W.Nodes.map Node.Name)) (hn : W.Nodes.length ≤ 1000000) :
  Calls Tryz.prog 147 #[.pointer (some ⟨e, 0, none⟩), .string q] w fun e' w' => e' = .returned (.tuple #[]) ∧ EngP lo W roots (want W R q) e F w w' := by
 obtain ⟨m, nv, rv, L, Fr, W0, tN, tS, tC, hX⟩ := h
 obtain ⟨A, c, B, d, rfl, rfl, _, _, c0, c1, c2⟩ := hX.cells
 have hreps := Asd.mk hX.reps
 have hE : Eng lo w W roots R e F := ⟨m, _, _, L, Fr, W0, tN, tS, tC, hX⟩
 replace hE := Asd.mk hE
 have he : e < w.heap.size := hX.lt e (by rw [hX.foot]; simp)
 have ha := Asd.mk ha
 by_cases q1 : hasN W.Nodes q = true
 rotate_left
 ·have q1 := Bool.eq_false_iff.2 q1
  have e1 := Asd.mk (want_out (R := R) q1)
  replace hX := Asd.mk hX
  go_enter Tryz.func147, Tryz.ntmps147
  go_wp2_with fail
  refine (find_calls W q _ hreps.out ha.out hn).mono ?_
  rintro e' w1 ⟨k, hk, rfl, hb⟩
  rw [q1]
  replace hb := Asd.mk hb
  go_wp2
  go_end0
  exact ⟨rfl, by rw [e1.out]; exact EngP.same hE.out hb.out⟩
 cases hr : runOf R q with
 | some r =>
  have e1 := Asd.mk (want_has (W := W) hr)
  obtain ⟨x, hx, hxr, hl⟩ := (hX).run_some hr
  replace hX := Asd.mk hX
  clear hl
  go_enter Tryz.func147, Tryz.ntmps147
  go_wp2_with fail
  refine (find_calls W q _ hreps.out ha.out hn).mono ?_
  rintro e' w1 ⟨k, hk, rfl, hb⟩
  rw [q1]
  obtain ⟨x, hx, hxr, hl⟩ := (hX.out.later hb).run_some hr
  obtain ⟨hcx, hfx⟩ := bcell hb
  replace hb := Asd.mk hb
  go_wp2
  go_end0
  exact ⟨rfl, by rw [e1.out]; exact EngP.same hE.out hb.out⟩
 | none =>
  have e1 := Asd.mk (want_new q1 hr)
  replace hX := Asd.mk hX
  go_enter Tryz.func147, Tryz.ntmps147
  go_wp2_with fail
  refine (find_calls W q _ hreps.out ha.out hn).mono ?_
  rintro e' w1 ⟨k, hk, rfl, hb⟩
  rw [q1]
  have hl := (hX.out.later hb).run_none hr
  obtain ⟨hcx, hfx⟩ := bcell hb
  replace hb := Asd.mk hb
  have hM := Asd.mk (fun (o : Obj) => (hX.out.later hb.out).map.move (heap_alloc_old w1 o (hX.out.later hb.out).map.lt))
  go_wp2_with (at_mapUpdate; refine wpMapSet rfl rfl Tryz.underlying123 Tryz.underlying9 rfl (hM.out _) rfl rfl ?_)
  intro w2 hM2 hO
  go_wp2
  go_end0
  refine ⟨rfl, ?_⟩
  rw [e1.out]
  have h1 := hX.out.later hb.out
  obtain ⟨g1, g2⟩ := h1.ins hr (b := w1.heap.size) ((hO.block _ (by have := h1.map.lt; omega)).trans (heap_alloc_new _ _)) (Nat.le_refl _) hM2 ⟨hO.os, hO.tape, hO.output, by rw [hO.size]; simp, fun b hb1 hbm => (hO.block b (by simpa using hbm)).trans (heap_alloc_old _ _ hb1)⟩
  refine EngP.trans (MFr.of_below hb.out) (fun k hk => .inl hk) ⟨_, g1, g2, fun k hk => ?_⟩
  rcases List.mem_append.1 hk with hk | hk
  ·exact .inl hk
  ·simp at hk; exact .inr (by omega)
end Go.Proofs.YtkpkfihaihoaeaaGreatDoor.M
end
section
set_option linter.unusedVariables false
set_option linter.unusedSimpArgs false
namespace Go.Proofs.YtkpkfihaihoaeaaGreatDoor.M
open Go.RowKit
theorem Eng.start {w w' : World} {W : Web} {roots : List ByteArray} {tN tS tC : Nat} {nv rv : Value} {Fr : List Nat} {e m : Nat} (hn : rep w (NodesT tN tS tC W.Nodes) nv) (hb : Below w.heap.size w w') (ho : own w' (strsT 9 roots) rv Fr) (hF : Fr.Nodup) (hFl : ∀ b ∈ Fr, w.heap.size ≤ b)
    (hm : w'.heap[m]? = some (.map #[] 0)) (he : w'.heap[e]? = some (.cells #[nv, rv, .map (some m)] 125 (0, 0))) (hml : w.heap.size ≤ m) (hel : w.heap.size ≤ e) (hem : e ≠ m) (hmF : m ∉ Fr) (heF : e ∉ Fr) : Eng w.heap.size w' W roots [] e (e :: m :: (Fr ++ entsF [])) := by
  refine ⟨m, nv, rv, [], Fr, w, tN, tS, tC, he, hn, Nat.le_refl _, hb, fun b hb => ?_, ho, ⟨#[], 0, hm, MapKept.stamped_empty 0, rfl⟩, fun x hx => (by cases hx), List.Perm.refl _, AscR.nil, rfl, ?_⟩
  · simp only [entsF, List.flatMap_nil, List.append_nil, List.mem_cons] at hb
    rcases hb with rfl | rfl | hb
    · exact hel
    · exact hml
    · exact hFl b hb
  · simp only [entsF, List.flatMap_nil, List.append_nil]
    exact List.nodup_cons.2 ⟨fun h => by rcases List.mem_cons.1 h with h | h; · exact hem h
                                         · exact heF h, List.nodup_cons.2 ⟨hmF, hF⟩⟩
def BeginP (W : Web) (roots : List ByteArray) (R : List Run) (w : World) (e' : Ending) (w' : World) : Prop := ∃ e F, e' = .returned (.pointer (some ⟨e, 0, none⟩)) ∧ Eng w.heap.size w' W roots R e F ∧ Below w.heap.size w w'
def BegL (W : Web) (roots : List ByteArray) (w : World) (s : Value) (wx : World) : Prop := ∃ e F, s = .pointer (some ⟨e, 0, none⟩) ∧ Eng w.heap.size wx W roots [] e F ∧ Below w.heap.size w wx
set_option maxRecDepth 100000 in
set_option maxHeartbeats 4000000 in
theorem begin_calls {tN tS tC ts : Nat} (W : Web) (roots : List ByteArray) (v : Value) (w : World) {vs : List Value} (h : reps w (W.c tN tS tC) vs) (hv : rep w (strsT ts roots) v) (ha : Asc (W.Nodes.map Node.Name)) (hn : W.Nodes.length ≤ 1000000) (hr : roots.length ≤ 1000000) :
  Calls Tryz.prog 82 #[.agg vs.toArray, v] w (BeginP W roots (begin_ W roots) w) := by
 obtain ⟨v0, rfl, h0⟩ := Web.ropen h
 obtain ⟨A, c, rfl, _, _⟩ := rep_len h0
 obtain ⟨B, d, rfl, _, _⟩ := rep_len hv
 clear h
 replace h0 := Asd.mk h0
 replace hv := Asd.mk hv
 replace ha := Asd.mk ha
 have hmm := @run_makeMap Tryz.prog
 go_enter Tryz.func82, Tryz.ntmps82
 go_wp2
 obtain ⟨w1, e1⟩ : ∃ X : World, X = w.alloc (.cells #[.slice A W.Nodes.length c] 34) := ⟨_, rfl⟩
 rw [← e1]
 have hb1 : Below w.heap.size w w1 := e1 ▸ below_al (Below.refl _ _) _
 have c0 : w1.cell? ⟨w.heap.size, 0, none⟩ = some (.slice A W.Nodes.length c) := by rw [e1]; go_simp
 have z1 : w.heap.size < w1.heap.size := by rw [e1]; simp
 clear e1
 replace hb1 := Asd.mk hb1
 have hkeep := Asd.mk (show ∀ X, Below w1.heap.size w1 X → Below w1.heap.size w1 X ∧ X.cell? ⟨w.heap.size, 0, none⟩ = some (.slice A W.Nodes.length c) from fun X hb => ⟨hb, cell_below hb c0⟩)
 go_cut [5] (fun s5 wx => BegL W roots w s5 wx)
 case first =>
  have s_0 : Below w1.heap.size w1 w1.drew := (Below.refl _ _).drew
  go_region_held3 (fun X => Below w1.heap.size w1 X ∧ X.cell? ⟨w.heap.size, 0, none⟩ = some (.slice A W.Nodes.length c)) ((refine hkeep.out _ ?_; (repeat first|with_reducible (first|exact Below.refl _ _|exact s_0|refine below_al ?_ _|refine below_dr ?_ _|refine below_d1 ?_)|(with_reducible refine Below.setCell ?_ ?_ _;rotate_left;next => first|(simp;done)|(simp;omega)|omega))))
   (first | (go_at_call 146; refine (CloneStr_calls roots _ _ (hv.out.below (below_st hb1.out (show Below w1.heap.size w1 _ from by repeat first|with_reducible (first|exact Below.refl _ _|exact s_0|refine below_al ?_ _|refine below_dr ?_ _|refine below_d1 ?_)|(with_reducible refine Below.setCell ?_ ?_ _;rotate_left;next => first|(simp;done)|(simp;omega)|omega)))) (by omega)).mono ?_; rintro e' w2 ⟨v1, rfl, hM, hb⟩; obtain ⟨s_0, s_1⟩ := hkeep.out _ (below_st (show Below w1.heap.size w1 _ from by repeat first|with_reducible (first|exact Below.refl _ _|exact s_0|refine below_al ?_ _|refine below_dr ?_ _|refine below_d1 ?_)|(with_reducible refine Below.setCell ?_ ?_ _;rotate_left;next => first|(simp;done)|(simp;omega)|omega)) hb); obtain ⟨Fr, o1, n1, l1⟩ := hM; obtain ⟨D, d2, rfl, _, _⟩ := own_slice o1; replace hb := Asd.mk hb; replace o1 := Asd.mk o1; replace l1 := Asd.mk l1; replace n1 := Asd.mk n1))
  all_goals (go_wp2_with fail; go_meet)
  ·have zz : w1.heap.size ≤ w2.heap.size := by have := hb.out.size; (try simp at this); omega
   refine ⟨w2.heap.size + 1, _, by simp, Eng.start (m := w2.heap.size) h0.out (by repeat first|with_reducible (first|exact Below.refl _ _|exact below_st (below_st hb1.out (below_d1 (Below.refl _ _))) hb.out|refine below_al ?_ _|refine below_dr ?_ _|refine below_d1 ?_)|(with_reducible refine Below.setCell ?_ ?_ _;rotate_left;next => first|(simp;done)|(simp;omega)|omega)) (o1.out.below (by repeat first|with_reducible (first|exact Below.refl _ _|exact Below.refl _ _|refine below_al ?_ _|refine below_dr ?_ _|refine below_d1 ?_)|(with_reducible refine Below.setCell ?_ ?_ _;rotate_left;next => first|(simp;done)|(simp;omega)|omega))) n1.out (fun b hb => by have := l1.out b hb; (try simp at this); omega) ?_ ?_ (by omega) (by omega) (by omega) (fun h => by have := o1.out.lt _ h; omega) (fun h => by have := o1.out.lt _ h; omega), by repeat first|with_reducible (first|exact Below.refl _ _|exact below_st (below_st hb1.out (below_d1 (Below.refl _ _))) hb.out|refine below_al ?_ _|refine below_dr ?_ _|refine below_d1 ?_)|(with_reducible refine Below.setCell ?_ ?_ _;rotate_left;next => first|(simp;done)|(simp;omega)|omega)⟩
   ·exact (heap_alloc_old _ _ (by simp)).trans (heap_alloc_new _ _)
   ·simpa using heap_alloc_new (w2.alloc (.map #[] 0)) _
  ·have zz : w1.heap.size + 1 ≤ w2.heap.size := by have := hb.out.size; (try simp at this); omega
   have hbb := Asd.mk (below_st (below_st hb1.out (show Below w1.heap.size w1 _ from by repeat first|with_reducible (first|exact Below.refl _ _|exact below_d1 (Below.refl _ _)|refine below_al ?_ _|refine below_dr ?_ _|refine below_d1 ?_)|(with_reducible refine Below.setCell ?_ ?_ _;rotate_left;next => first|(simp;done)|(simp;omega)|omega))) hb.out)
   refine ⟨w2.heap.size, _, by simp, Eng.start (m := w1.heap.size) h0.out (by repeat first|with_reducible (first|exact Below.refl _ _|exact hbb.out|refine below_al ?_ _|refine below_dr ?_ _|refine below_d1 ?_)|(with_reducible refine Below.setCell ?_ ?_ _;rotate_left;next => first|(simp;done)|(simp;omega)|omega)) (o1.out.below (by repeat first|with_reducible (first|exact Below.refl _ _|exact Below.refl _ _|refine below_al ?_ _|refine below_dr ?_ _|refine below_d1 ?_)|(with_reducible refine Below.setCell ?_ ?_ _;rotate_left;next => first|(simp;done)|(simp;omega)|omega))) n1.out (fun b hb => by have := l1.out b hb; (try simp at this); omega) ?_ ?_ (by omega) (by omega) (by omega) (fun h => by have := l1.out _ h; (try simp at this); omega) (fun h => by have := o1.out.lt _ h; omega), by repeat first|with_reducible (first|exact Below.refl _ _|exact hbb.out|refine below_al ?_ _|refine below_dr ?_ _|refine below_d1 ?_)|(with_reducible refine Below.setCell ?_ ?_ _;rotate_left;next => first|(simp;done)|(simp;omega)|omega)⟩
   ·refine (heap_alloc_old _ _ (by omega)).trans ((hb.out.block _ (by simp)).trans ?_)
    exact heap_alloc_new _ _
   ·exact heap_alloc_new _ _
 case rest =>
  obtain ⟨e, F, rfl, hE, hb⟩ := hcut
  replace hE := Asd.mk hE
  replace hb := Asd.mk hb
  clear hkeep c0 z1 hb1
  have he := hE.out.lt e hE.out.self
  go_wp2
  go_loopw [16] (fun i wr => ∃ (k : Nat) (F' : List Nat), k ≤ roots.length ∧ i = .int .i64 k ∧ Eng w.heap.size wr W roots (wants W [] (roots.take k)) e F' ∧ Below w.heap.size w wr) (fun i _ => roots.length - (intOf i).toNat)
  case atStart => exact ⟨0, F, by omega, rfl, hE.out, hb.out⟩
  case round =>
   obtain ⟨k, F', hk, rfl, hE', hb'⟩ := hrel
   by_cases hlt : k < roots.length
   ·obtain ⟨a, c', he', hcell⟩ := str_elem (hv.out.below hb') hlt
    cases he'
    have e2 := Asd.mk (show wants W [] (roots.take (k + 1)) = want W (wants W [] (roots.take k)) roots[k] by unfold wants; rw [List.take_succ_eq_append_getElem hlt, List.foldl_append]; rfl)
    replace hE' := Asd.mk hE'
    replace hb' := Asd.mk hb'
    go_wp2_with fail
    refine (want_calls W roots _ e F' _ _ hE'.out ha.out hn).mono ?_
    rintro e' w3 ⟨rfl, F2, h1, h2, h3⟩
    go_wp2
    go_roundw
    case rel => exact ⟨k + 1, F2, by omega, by go_num, by rw [e2.out]; exact h1, (show Below w.heap.size w w3 from ⟨h2.os.trans hb'.out.os, h2.tape.trans hb'.out.tape, h2.output.trans hb'.out.output, Nat.le_trans hb'.out.size h2.size, fun b hbl => (h2.block b (Nat.lt_of_lt_of_le hbl hb'.out.size) (fun hf => by have := hE'.out.above b hf; omega)).trans (hb'.out.block b hbl)⟩)⟩
    case measure => simp [intOf]; omega
   ·obtain rfl : k = roots.length := by omega
    have e2 := Asd.mk (show wants W [] (roots.take roots.length) = begin_ W roots by rw [List.take_length]; rfl)
    replace hE' := Asd.mk hE'
    go_wp2
    go_ret
    exact ⟨e, F', rfl, by rw [← e2.out]; exact hE'.out, hb'⟩
end Go.Proofs.YtkpkfihaihoaeaaGreatDoor.M
end
section
set_option linter.unusedVariables false
set_option linter.unusedSimpArgs false
namespace Go.Proofs.YtkpkfihaihoaeaaGreatDoor.M
open Go.RowKit
theorem delC_perm {L : List (ByteArray × Value)} (hn : (L.map (·.1)).Nodup) {p : ByteArray × Value} (hp : p ∈ L) : (p :: delC L p.1).Perm L := by
 induction L with
 | nil => cases hp
 | cons a L ih =>
  rw [List.map_cons, List.nodup_cons] at hn
  rcases List.mem_cons.1 hp with e | hp
  ·subst e
   have : delC (p :: L) p.1 = L := by
    unfold delC
    rw [List.filter_cons, if_neg (by simp), List.filter_eq_self]
    intro r hr
    simp only [ne_eq, decide_eq_true_eq]
    exact fun e => hn.1 (by rw [← e]; exact List.mem_map.2 ⟨r, hr, rfl⟩)
   rw [this]
  ·have hne : a.1 ≠ p.1 := fun e => hn.1 (by rw [e]; exact List.mem_map.2 ⟨p, hp, rfl⟩)
   have e2 : delC (a :: L) p.1 = a :: delC L p.1 := by
    unfold delC; rw [List.filter_cons, if_pos (by simp [hne])]
   rw [e2]
   exact (List.Perm.swap _ _ _).trans ((ih hn.2 hp).cons a)
theorem delC_nodup {L : List (ByteArray × Value)} (hn : (L.map (·.1)).Nodup) (q : ByteArray) : ((delC L q).map (·.1)).Nodup := by
 unfold delC
 exact List.Nodup.sublist (List.Sublist.map _ List.filter_sublist) hn
theorem ptr_keys {L : List Ent} : (ptrC L).map (·.1) = L.map fun x => x.r.Name := by unfold ptrC; rw [List.map_map]; rfl
def NamesI (C0 : List (ByteArray × Value)) (m r : Nat) (w : World) (v : Value) (wr : World) : Prop :=
 ∃ (xs : List ByteArray) (C : List (ByteArray × Value)), ItAt wr m r C0 C ∧ (xs ++ C.map (·.1)).Perm (C0.map (·.1)) ∧ Lie (r + 1) wr (strsT 9 xs) v ∧ Below w.heap.size w wr
theorem NamesI.step {C0 C : List (ByteArray × Value)} {xs : List ByteArray} {p : ByteArray × Value} (h : (xs ++ C.map (·.1)).Perm (C0.map (·.1))) (hn : (C0.map (·.1)).Nodup) (hp : p ∈ C) : ((xs ++ [p.1]) ++ (delC C p.1).map (·.1)).Perm (C0.map (·.1)) := by
 have hc : (C.map (·.1)).Nodup := (List.nodup_append.1 (h.nodup_iff.2 hn)).2.1
 have := (delC_perm hc hp).map (·.1)
 rw [List.append_assoc]
 exact (this.append_left xs).trans h
set_option maxRecDepth 100000 in
set_option maxHeartbeats 4000000 in
theorem names_calls {lo : Nat} (W : Web) (roots : List ByteArray) (R : List Run) (e : Nat) (F : List Nat) (w : World) (h : Eng lo w W roots R e F) (hR : R.length ≤ 1000000) :
  Calls Tryz.prog 107 #[.pointer (some ⟨e, 0, none⟩)] w (MadeV w (strsT 9 (R.map Run.Name))) := by
 obtain ⟨m, nv, rv, L, Fr, W0, tN, tS, tC, hX⟩ := h
 obtain ⟨A, c, B, d, rfl, rfl, _, _, c0, c1, c2⟩ := hX.cells
 obtain ⟨C0, hC0⟩ : ∃ C0, ptrC L = C0 := ⟨_, rfl⟩
 have hk := Asd.mk (show (C0.map (·.1)).Perm (R.map Run.Name) by rw [← hC0, ptr_keys]; exact ((hX.perm.map Run.Name).trans (by rw [List.map_map]; exact List.Perm.refl _)).symm)
 have hasc := Asd.mk hX.asc
 have hmap := Asd.mk (hC0 ▸ hX.map)
 have hnd := Asd.mk (hC0 ▸ hX.map).nodup
 have hlen := Asd.mk (show (C0.map (·.1)).length ≤ 1000000 by rw [hk.out.length_eq, List.length_map]; exact hR)
 have hmlt := hX.map.lt
 clear hX hC0
 go_enter Tryz.func107, Tryz.ntmps107
 go_wp2_with (at_range; refine wpMapRange rfl rfl Tryz.underlying123 rfl hmap.out ?_)
 intro w1 hI hb hz
 replace hI := Asd.mk hI
 replace hb := Asd.mk hb
 have hz1 : w.heap.size + 1 ≤ w1.heap.size := by omega
 clear hz c0 c1 c2
 have hmr : m ≠ w.heap.size := by omega
 go_wp2
 go_loopw [3] (fun v wr => NamesI C0 m w.heap.size w v wr) (fun _ wr => wr.rangeLeft m w.heap.size)
 case atStart => exact ⟨[], C0, hI.out, List.Perm.refl _, Lie.nil _ _ _ _, hb.out⟩
 case round =>
  obtain ⟨xs, C, hI2, hp, hL, hb2⟩ := hrel
  have hmes := Asd.mk hI2.left
  have hrl := hI2.lt
  replace hI2 := Asd.mk hI2
  replace hL := Asd.mk hL
  replace hb2 := Asd.mk hb2
  have hxl : xs.length ≤ 1000000 := by have h1 := hp.length_eq; have h2 := hlen.out; simp at h1 h2; omega
  replace hp := Asd.mk hp
  cases C with
  | nil =>
   go_wp2_with (at_next; refine wpMapNext0 rfl rfl rfl hI2.out hmr ?_)
   obtain ⟨Fo, o1, n1, l1⟩ := hL.out
   refine (Strings_calls xs (R.map Run.Name) _ Fo _ o1 (by simpa using hp.out.trans hk.out) hasc.out hxl).mono ?_
   rintro e' w3 ⟨rfl, o2, hm3⟩
   go_wp2
   go_ret
   refine ⟨_, rfl, ⟨Fo, o2, n1, fun k hk => by have := l1 k hk; omega⟩, ?_⟩
   exact ⟨hm3.os.trans hb2.out.os, hm3.tape.trans hb2.out.tape, hm3.output.trans hb2.out.output, Nat.le_trans hb2.out.size hm3.size, fun k hk => (hm3.block k (Nat.lt_of_lt_of_le hk hb2.out.size) (fun hf => by have := l1 k hf; omega)).trans (hb2.out.block k hk)⟩
  | cons p0 C =>
   obtain ⟨g0, g1, rfl, _, _⟩ := hL.out.slice
   go_wp2_with (at_next; refine wpMapNext1 rfl rfl rfl hI2.out hmr (by simp) ?_)
   intro q u w2 hp2 hI3 hO hen
   replace hp2 : (q, u) ∈ p0 :: C := by simpa using hp2
   replace hI3 := Asd.mk hI3
   have hL2 := Asd.mk (hL.out.far hO.far (by omega))
   have hb3 := Asd.mk (Far.trans hb2.out hO.far (by omega) hb2.out.size)
   have hz3 : w2.heap.size = wr.heap.size := hO.size
   have hz4 : w.heap.size + 1 ≤ w2.heap.size := by omega
   replace hz3 := Asd.mk hz3
   clear hO
   go_wp2_with (at_builtin; refine appStr rfl rfl rfl (lo := w.heap.size + 1) (wr := w2) hz4 hL2.out (by repeat first|with_reducible (first|exact Below.refl _ _|exact Below.refl _ _|refine below_al ?_ _|refine below_dr ?_ _|refine below_d1 ?_)|(with_reducible refine Below.setCell ?_ ?_ _;rotate_left;next => first|(simp;done)|(simp;omega)|omega)) rfl (heap_alloc_new _ _) hxl ?_)
   intro v7 w7 hL7 hF7
   have e9 := Asd.mk (NamesI.step hp.out hnd.out hp2)
   have hl9 := Asd.mk (delC_len hp2)
   have hI7 := Asd.mk ((hI3.out).move (w' := w7) ((hF7.block m (by have := hI3.out.map.lt; simp; omega) (.inl (by omega))).trans (heap_alloc_old _ _ hI3.out.map.lt)) ((hF7.block w.heap.size (by simp; omega) (.inl (by omega))).trans (heap_alloc_old _ _ (by omega))))
   have hb7 := Asd.mk (Far.trans (show Below w.heap.size w _ from by repeat first|with_reducible (first|exact Below.refl _ _|exact hb3.out|refine below_al ?_ _|refine below_dr ?_ _|refine below_d1 ?_)|(with_reducible refine Below.setCell ?_ ?_ _;rotate_left;next => first|(simp;done)|(simp;omega)|omega)) hF7 (by omega) (by simp; omega))
   clear hen hp2
   replace hL7 := Asd.mk hL7
   clear hF7
   go_wp2
   go_roundw
   case rel => exact ⟨xs ++ [q], delC (p0 :: C) q, hI7.out, e9.out, hL7.out, hb7.out⟩
   case measure => rw [hI7.out.left, hmes.out]; exact hl9.out
end Go.Proofs.YtkpkfihaihoaeaaGreatDoor.M
end
section
set_option linter.unusedVariables false
set_option linter.unusedSimpArgs false
namespace Go.Proofs.YtkpkfihaihoaeaaGreatDoor.M
open Go.RowKit
theorem heap_set1 {w : World} {b : Nat} {cs : Array Value} {ty : TypeId} {fr : Nat × Nat} (h : w.heap[b]? = some (.cells cs ty fr)) (i : Nat) (v : Value) : (w.setCell ⟨b, i, none⟩ v).heap[b]? = some (.cells (cs.setIfInBounds i v) ty fr) := by
 simp [World.setCell, Array.getElem?_modify, h]
theorem RunsT_snoc (t : Nat) (xs : List Run) (x : Run) : RunsT t (xs ++ [x]) = .l t 7 (xs.length + 1) (xs.flatMap Run.c ++ Run.c x) := by
 unfold RunsT tl; rw [List.length_append, List.flatMap_append]; simp
theorem EngX.run_at {lo : Nat} {w : World} {W : Web} {roots : List ByteArray} {R : List Run} {e : Nat} {F : List Nat} {m : Nat} {nv rv : Value} {L : List Ent} {Fr : List Nat} {W0 : World} {tN tS tC : Nat} (h : EngX lo w W roots R e F m nv rv L Fr W0 tN tS tC) {q : ByteArray} {r : Run} (hq : runOf R q = some r) :
  ∃ (x : Ent) (A : Option Addr) (c : Nat), x ∈ L ∧ x.r = r ∧ x.v = .slice A r.Texts.length c ∧ (Instr.lookup 123 (.map (some m)) (.string q) false).run Tryz.prog w = .ok (.pointer (some ⟨x.b, 0, none⟩)) w ∧ w.cell? ⟨x.b, 0, none⟩ = some (.string r.Name) ∧ w.cell? ⟨x.b, 1, none⟩ = some (.bool r.Over) ∧ w.cell? ⟨x.b, 2, none⟩ = some (.bool r.Fail) ∧
   w.cell? ⟨x.b, 3, none⟩ = some (.string r.Text) ∧ w.cell? ⟨x.b, 4, none⟩ = some (.int .i64 r.At) ∧ w.cell? ⟨x.b, 5, none⟩ = some (.int .i64 r.Visits) ∧ w.cell? ⟨x.b, 6, none⟩ = some (.slice A r.Texts.length c) ∧ rep w (strsT 9 r.Texts) (.slice A r.Texts.length c) := by
 obtain ⟨x, hx, rfl, hl⟩ := h.run_some hq
 obtain ⟨h1, h2⟩ := h.runs x hx
 obtain ⟨A, c, hv, _, _⟩ := own_slice h2
 have h3 := h2.rep
 rw [hv] at h3 h1
 exact ⟨x, A, c, hx, rfl, hv, hl, cellOf h1 rfl, cellOf h1 rfl, cellOf h1 rfl, cellOf h1 rfl, cellOf h1 rfl, cellOf h1 rfl, cellOf h1 rfl, h3⟩
def StateP (roots : List ByteArray) (R : List Run) (w : World) (e' : Ending) (w' : World) : Prop := ∃ v0 v1, e' = .returned (.agg #[v0, v1]) ∧ Mades w w' (State.c 84 ⟨roots, R⟩) [v0, v1] ∧ Below w.heap.size w w'
theorem mades_state {w w' : World} {roots : List ByteArray} {R : List Run} {v0 v1 : Value} {lo : Nat} {F0 : List Nat} (o0 : own w' (strsT 9 roots) v0 F0) (n0 : F0.Nodup) (g0 : ∀ k ∈ F0, w.heap.size ≤ k ∧ k < lo)
  (h1 : Lie lo w' (RunsT 84 R) v1) (hl : w.heap.size ≤ lo) : Mades w w' (State.c 84 ⟨roots, R⟩) [v0, v1] := by
 obtain ⟨F1, o1, n1, l1⟩ := h1
 refine ⟨F0 ++ F1, State.omk (x := ⟨roots, R⟩) o0 o1, nod2 n0 n1 (fun k hk hk' => by have := g0 k hk; have := l1 k hk'; omega), mem2 (fun k hk => (g0 k hk).1) (fun k hk => Nat.le_trans hl (l1 k hk))⟩
def StI (W : Web) (roots : List ByteArray) (R : List Run) (e : Nat) (F : List Nat) (lo : Nat) (w : World) (b3 : Nat) (A0 : Option Addr) (c0 : Nat) (F0 : List Nat) (lo2 k : Nat) (wr : World) : Prop :=
 ∃ v, wr.heap[w.heap.size]? = some (.cells #[.slice none 0 0, .slice none 0 0] 38 (0, 0)) ∧ wr.heap[b3]? = some (.cells #[.slice A0 roots.length c0, v] 38 (0, 0)) ∧ Lie lo2 wr (RunsT 84 (tkTo R k)) v ∧ own wr (strsT 9 roots) (.slice A0 roots.length c0) F0 ∧ Below w.heap.size w wr
set_option maxRecDepth 100000 in
set_option maxHeartbeats 4000000 in
theorem state_calls {lo : Nat} (W : Web) (roots : List ByteArray) (R : List Run) (e : Nat) (F : List Nat) (w : World) (h : Eng lo w W roots R e F) (hR : R.length ≤ 1000000) (hro : roots.length ≤ 1000000) (hT : ∀ r ∈ R, r.Texts.length ≤ 1000000) :
  Calls Tryz.prog 84 #[.pointer (some ⟨e, 0, none⟩)] w (StateP roots R w) := by
 have hE := Asd.mk h
 obtain ⟨m, nv, rv, L, Fr, W0, tN, tS, tC, hX⟩ := h
 obtain ⟨A, c, B, d, rfl, rfl, _, _, c0, c1, c2⟩ := hX.cells
 have he := hX.lt e (by rw [hX.foot]; simp)
 have hro2 := Asd.mk hX.roots.rep
 replace hX := Asd.mk hX
 go_enter Tryz.func84, Tryz.ntmps84
 go_wp2_with fail
 refine (CloneStr_calls roots _ _ (hro2.out.below (by repeat first|with_reducible (first|exact Below.refl _ _|exact Below.refl _ _|refine below_al ?_ _|refine below_dr ?_ _|refine below_d1 ?_)|(with_reducible refine Below.setCell ?_ ?_ _;rotate_left;next => first|(simp;done)|(simp;omega)|omega))) (by omega)).mono ?_
 rintro e' w1 ⟨v1, rfl, ⟨F0, o0, n0, l0⟩, hb⟩
 obtain ⟨A0, d0, rfl, _, _⟩ := own_slice o0
 obtain ⟨hcx, hfx⟩ := bcell hb
 have hz1 : w.heap.size + 1 ≤ w1.heap.size := by have := hb.size; simp at this; omega
 have hA1 := Asd.mk ((hb.block w.heap.size (by simp)).trans (heap_alloc_new _ _))
 have hb1 := Asd.mk (below_st (show Below w.heap.size w _ from by repeat first|with_reducible (first|exact Below.refl _ _|exact Below.refl _ _|refine below_al ?_ _|refine below_dr ?_ _|refine below_d1 ?_)|(with_reducible refine Below.setCell ?_ ?_ _;rotate_left;next => first|(simp;done)|(simp;omega)|omega)) hb)
 have hl0 := Asd.mk o0.lt
 replace o0 := Asd.mk o0
 replace l0 := Asd.mk l0
 clear hb
 go_wp2_with fail
 refine (names_calls W roots R e F _ (hE.out.later (by repeat first|with_reducible (first|exact Below.refl _ _|exact hb1.out|refine below_al ?_ _|refine below_dr ?_ _|refine below_d1 ?_)|(with_reducible refine Below.setCell ?_ ?_ _;rotate_left;next => first|(simp;done)|(simp;omega)|omega))) hR).mono ?_
 obtain ⟨ns, hns⟩ : ∃ ns, R.map Run.Name = ns := ⟨_, rfl⟩
 have hnl := Asd.mk (show ns.length = R.length by rw [← hns, List.length_map])
 have hnk := Asd.mk (show ∀ k (h : k < ns.length) (h' : k < R.length), ns[k] = R[k].Name by subst hns; intro k h h'; simp)
 rw [hns]
 clear hns
 rintro e' w2 ⟨v2, rfl, ⟨Fn, on, nn, ln⟩, hb⟩
 obtain ⟨A2, d2, rfl, _, _⟩ := own_slice on
 have hB2 := Asd.mk ((hb.block w1.heap.size (by simp)).trans (heap_alloc_new _ _))
 have hA2 := Asd.mk ((hb.block w.heap.size (by simp; omega)).trans ((heap_alloc_old _ _ (by omega)).trans hA1.out))
 have o2 := Asd.mk (o0.out.below (below_st (show Below w1.heap.size w1 _ from by repeat first|with_reducible (first|exact Below.refl _ _|exact Below.refl _ _|refine below_al ?_ _|refine below_dr ?_ _|refine below_d1 ?_)|(with_reducible refine Below.setCell ?_ ?_ _;rotate_left;next => first|(simp;done)|(simp;omega)|omega)) hb))
 have hb2 := Asd.mk (below_st (show Below w.heap.size w _ from by repeat first|with_reducible (first|exact Below.refl _ _|exact hb1.out|refine below_al ?_ _|refine below_dr ?_ _|refine below_d1 ?_)|(with_reducible refine Below.setCell ?_ ?_ _;rotate_left;next => first|(simp;done)|(simp;omega)|omega)) hb)
 have hnr := Asd.mk (fun (X : World) (g : MFr [w1.heap.size] w2 X) => (g.own on (fun b hb h => by have := ln b hb; simp at h this; omega)).rep)
 have hz2 : w1.heap.size + 1 ≤ w2.heap.size := by have := hb.size; simp at this; omega
 clear hb on ln nn hcx hfx c0 c1 c2
 have hns2 : ns.length ≤ 9223372036854775807 := by have := hnl.out; omega
 obtain ⟨m1, hm1⟩ : ∃ m1, m1 = m := ⟨_, rfl⟩
 go_wp2
 go_loopw [16] (fun i wr => ∃ k : Nat, k ≤ ns.length ∧ i = .int .i64 k ∧ StI W roots R e F lo w w1.heap.size A0 d0 F0 w2.heap.size k wr ∧ MFr [w1.heap.size] w2 wr) (fun i _ => ns.length - (intOf i).toNat)
 case atStart => exact ⟨0, by omega, rfl, ⟨_, hA2.out, hB2.out, by rw [tkTo_zero]; exact Lie.nil _ _ _ _, o2.out, hb2.out⟩, MFr.refl _ _⟩
 case round =>
  obtain ⟨k, hk, rfl, ⟨v, gA, gB, gL, gO, gb⟩, gn⟩ := hrel
  by_cases hlt : k < ns.length
  ·have hkR : k < R.length := by have := hnl.out; omega
   obtain ⟨a, c', he', hcell⟩ := str_elem (hnr.out wr gn) hlt
   cases he'
   obtain ⟨r, hr⟩ : ∃ r, R[k] = r := ⟨_, rfl⟩
   have e1 := Asd.mk (show tkTo R (k + 1) = tkTo R k ++ [r] by rw [tkTo_succ hkR, hr])
   have hrm : r ∈ R := hr ▸ List.getElem_mem hkR
   have hT' := hT r hrm
   have hq : runOf R ns[k] = some r := by rw [hnk.out k hlt hkR, hr]; exact runOf_mem hX.out.asc hrm
   obtain ⟨x, Ax, cx, hx, hxr, hxv, hl, x0, x1, x2, x3, x4, x5, x6, hxt⟩ := (hX.out.later gb).run_at hq
   obtain ⟨y0, y1, y2⟩ : wr.cell? ⟨e, 0, none⟩ = some (.slice A W.Nodes.length c) ∧ wr.cell? ⟨e, 1, none⟩ = some (.slice B roots.length d) ∧ wr.cell? ⟨e, 2, none⟩ = some (.map (some m)) := by
    have hXr := (hX.out.later gb).eng
    exact ⟨cellOf hXr rfl, cellOf hXr rfl, cellOf hXr rfl⟩
   obtain ⟨Av, cv, rfl, hvl, _⟩ := gL.slice
   have b1 := cellOf gB (i := 1) rfl
   have f1 := frozenOf gB 1
   have s1 : w1.heap.size < wr.heap.size := lt_of_heap gB
   have hxb : x.b < wr.heap.size := World.block_lt_of_cell? _ _ x0
   have hlen := Nat.le_trans (tkTo_len R k) (Nat.le_trans (Nat.le_of_lt hkR) hR)
   replace gL := Asd.mk gL
   replace gA := Asd.mk gA
   replace gB := Asd.mk gB
   replace gO := Asd.mk gO
   replace gb := Asd.mk gb
   have s2 : w2.heap.size ≤ wr.heap.size := gn.size
   replace gn := Asd.mk gn
   replace hxt := Asd.mk hxt
   clear hq hx hxr hxv hr
   go_wp2_with fail
   refine (CloneStr_calls r.Texts _ _ (hxt.out.below (by repeat first|with_reducible (first|exact Below.refl _ _|exact Below.refl _ _|refine below_al ?_ _|refine below_dr ?_ _|refine below_d1 ?_)|(with_reducible refine Below.setCell ?_ ?_ _;rotate_left;next => first|(simp;done)|(simp;omega)|omega))) (by omega)).mono ?_
   rintro e' w3 ⟨v3, rfl, ⟨F3, o3, n3, l3⟩, hb⟩
   obtain ⟨A3, d3, rfl, _, _⟩ := own_slice o3
   obtain ⟨hcx, hfx⟩ := bcell hb
   have z3 : wr.heap.size + 1 ≤ w3.heap.size := by have := hb.size; simp at this; omega
   have hb3 := Asd.mk (below_st (show Below wr.heap.size wr _ from by repeat first|with_reducible (first|exact Below.refl _ _|exact Below.refl _ _|refine below_al ?_ _|refine below_dr ?_ _|refine below_d1 ?_)|(with_reducible refine Below.setCell ?_ ?_ _;rotate_left;next => first|(simp;done)|(simp;omega)|omega)) hb)
   have hu3 : Asd (Lies (wr.heap.size + 1) w3 (Run.c r) [.string r.Name, .bool r.Over, .bool r.Fail, .string r.Text, .int .i64 r.At, .int .i64 r.Visits, .slice A3 r.Texts.length d3]) := Asd.mk ⟨F3, Run.omk r o3, n3, fun q hq => by have := l3 q hq; simpa using this⟩
   clear hb o3 l3 n3
   go_wp2_with (at_builtin; refine appL rfl rfl Tryz.underlying36 info_Run rfl (by decide) rfl (lo := w2.heap.size) (wr := wr) s2 gL.out (by repeat first|with_reducible (first|exact Below.refl _ _|exact hb3.out|refine below_al ?_ _|refine below_dr ?_ _|refine below_d1 ?_)|(with_reducible refine Below.setCell ?_ ?_ _;rotate_left;next => first|(simp;done)|(simp;omega)|omega)) rfl (one_cells (heap_new_set _ _ _ _)) (by simp) (((hu3.out.set (p := ⟨wr.heap.size, 6, none⟩) (by simp) _).mono (by omega)).below (below_al (Below.refl _ _) _)) (by simp [maxLen]; omega) (by omega) ?_)
   intro v7 w7 hL7 hF7
   obtain ⟨A7, d7, rfl, _, _⟩ := hL7.slice
   have hold := Asd.mk (fun b (hb : b < wr.heap.size) => show ((w3.setCell ⟨wr.heap.size, 6, none⟩ (.slice A3 r.Texts.length d3)).alloc (.cells #[.string r.Name, .bool r.Over, .bool r.Fail, .string r.Text, .int .i64 r.At, .int .i64 r.Visits, .slice A3 r.Texts.length d3] 84)).heap[b]? = wr.heap[b]? from (show Below wr.heap.size wr _ from by repeat first|with_reducible (first|exact Below.refl _ _|exact hb3.out|refine below_al ?_ _|refine below_dr ?_ _|refine below_d1 ?_)|(with_reducible refine Below.setCell ?_ ?_ _;rotate_left;next => first|(simp;done)|(simp;omega)|omega)).block b hb)
   have h7 := Asd.mk (fun b (hb : b < w2.heap.size) => (hF7.block b (by simp; omega) (.inl hb)).trans (hold.out b (by omega)))
   have gB7 := Asd.mk ((h7.out w1.heap.size (by omega)).trans gB.out)
   have t0 := cellOf gB7.out (i := 1) rfl
   have t1 := frozenOf gB7.out 1
   have gA7 := Asd.mk ((h7.out w.heap.size (by omega)).trans gA.out)
   have gO7 := Asd.mk (gO.out.move (w1 := w7) (fun b hb => h7.out b (by have := hl0.out b hb; omega)))
   have hb7 := Asd.mk (Far.trans (show Below w.heap.size w _ from by repeat first|with_reducible (first|exact Below.refl _ _|exact below_st gb.out hb3.out|refine below_al ?_ _|refine below_dr ?_ _|refine below_d1 ?_)|(with_reducible refine Below.setCell ?_ ?_ _;rotate_left;next => first|(simp;done)|(simp;omega)|omega)) hF7 (by omega) (by simp; omega))
   have hn7 := Asd.mk (show MFr [w1.heap.size] w2 w7 from ⟨hF7.os.trans ((show Below wr.heap.size wr _ from by repeat first|with_reducible (first|exact Below.refl _ _|exact hb3.out|refine below_al ?_ _|refine below_dr ?_ _|refine below_d1 ?_)|(with_reducible refine Below.setCell ?_ ?_ _;rotate_left;next => first|(simp;done)|(simp;omega)|omega)).os.trans gn.out.os), hF7.tape.trans ((show Below wr.heap.size wr _ from by repeat first|with_reducible (first|exact Below.refl _ _|exact hb3.out|refine below_al ?_ _|refine below_dr ?_ _|refine below_d1 ?_)|(with_reducible refine Below.setCell ?_ ?_ _;rotate_left;next => first|(simp;done)|(simp;omega)|omega)).tape.trans gn.out.tape), hF7.output.trans ((show Below wr.heap.size wr _ from by repeat first|with_reducible (first|exact Below.refl _ _|exact hb3.out|refine below_al ?_ _|refine below_dr ?_ _|refine below_d1 ?_)|(with_reducible refine Below.setCell ?_ ?_ _;rotate_left;next => first|(simp;done)|(simp;omega)|omega)).output.trans gn.out.output), Nat.le_trans s2 (Nat.le_trans (by simp; omega) hF7.size), fun b hb hn => (h7.out b hb).trans (gn.out.block b hb hn)⟩)
   replace hL7 := Asd.mk hL7
   have z7 : wr.heap.size ≤ w7.heap.size := by have := hF7.size; simp at this; omega
   clear hF7 hcx hfx h7 hold
   go_wp2
   go_roundw
   case rel =>
    refine ⟨k + 1, by omega, by go_num, ⟨_, (Below.heap_setCell _ _ _ _ (by simp; omega)).trans gA7.out, heap_set1 gB7.out 1 _, by rw [e1.out, RunsT_snoc]; exact hL7.out.set (by simp; omega) _, gO7.out.set (fun h => by have := hl0.out _ h; simp at this) _, by repeat first|with_reducible (first|exact Below.refl _ _|exact hb7.out|refine below_al ?_ _|refine below_dr ?_ _|refine below_d1 ?_)|(with_reducible refine Below.setCell ?_ ?_ _;rotate_left;next => first|(simp;done)|(simp;omega)|omega)⟩, hn7.out.trans (MFr.of_set _ (by simp))⟩
   case measure => simp [intOf]; omega
  ·obtain rfl : k = ns.length := by omega
   have e1 := Asd.mk (show tkTo R ns.length = R by rw [hnl.out]; exact tkTo_end R)
   obtain ⟨Av, cv, rfl, hvl, _⟩ := gL.slice
   have b0 := cellOf gB (i := 0) rfl
   have b1 := cellOf gB (i := 1) rfl
   have a0 := cellOf gA (i := 0) rfl
   have a1 := cellOf gA (i := 1) rfl
   have f0 := frozenOf gA 0
   have f1 := frozenOf gA 1
   replace gL := Asd.mk gL
   replace gO := Asd.mk gO
   replace gb := Asd.mk gb
   clear gA gB gn
   have hw : w.heap.size < wr.heap.size := World.block_lt_of_cell? _ _ a0
   have hrl : (tkTo R ns.length).length ≤ 1000000 := by rw [e1.out]; exact hR
   go_wp2
   refine bodyPost_ret (v := .agg #[.slice A0 roots.length d0, .slice Av (tkTo R ns.length).length cv]) (by simp [results, Tryz.results84, go_sem, *]) rfl ?_
   have hq := Asd.mk ((MFr.of_set (F := [w.heap.size]) (w := wr) (p := ⟨w.heap.size, 0, none⟩) (.slice A0 roots.length d0) (by simp)).trans (MFr.of_set (p := ⟨w.heap.size, 1, none⟩) (.slice Av (tkTo R ns.length).length cv) (by simp)))
   refine ⟨_, _, rfl, mades_state (lo := w2.heap.size) (F0 := F0) (hq.out.own gO.out (fun b hb h => by have := l0.out b hb; simp at h this; omega)) n0 (fun b hb => ⟨by have := l0.out b hb; simp at this; omega, by have := hl0.out b hb; omega⟩) ?_ (by omega), by repeat first|with_reducible (first|exact Below.refl _ _|exact gb.out|refine below_al ?_ _|refine below_dr ?_ _|refine below_d1 ?_)|(with_reducible refine Below.setCell ?_ ?_ _;rotate_left;next => first|(simp;done)|(simp;omega)|omega)⟩
   have hq2 := (gL.out.set (p := ⟨w.heap.size, 0, none⟩) (by show w.heap.size < w2.heap.size; omega) (.slice A0 roots.length d0)).set (p := ⟨w.heap.size, 1, none⟩) (by show w.heap.size < w2.heap.size; omega) (.slice Av (tkTo R ns.length).length cv)
   rw [e1.out] at hq2 ⊢
   exact hq2
end Go.Proofs.YtkpkfihaihoaeaaGreatDoor.M
end
section
set_option linter.unusedVariables false
set_option linter.unusedSimpArgs false
namespace Go.Proofs.YtkpkfihaihoaeaaGreatDoor.M
open Go.RowKit
def RunsP (lo : Nat) (N : List Nat) (R : List Run) (w : World) (e : Ending) (w' : World) : Prop := ∃ v, e = .returned v ∧ RowN N lo w' 84 7 R.length (R.flatMap Run.c) v ∧ Below w.heap.size w w'
theorem flat_snoc (R : List Run) (r : Run) : (R ++ [r]).flatMap Run.c = R.flatMap Run.c ++ Run.c r := by rw [List.flatMap_append]; simp
theorem MFr.upon {B : Nat} {N : List Nat} {W w w' : World} (h : MFr N w w') (hb : Below B W w) (hB : B ≤ W.heap.size) (hN : ∀ b ∈ N, B ≤ b) : Below B W w' := hb.trans (h.below (Nat.le_trans hB hb.size) hN)
theorem cell_lt0 {w : World} {p : Addr} {u : Value} (h : w.cell? p = some u) : p.block < w.heap.size := by
 rcases Nat.lt_or_ge p.block w.heap.size with h1 | h1
 ·exact h1
 ·simp [World.cell?, Array.getElem?_eq_none_iff.2 h1] at h
theorem Run.elemS {N : List Nat} {tR : Nat} {w : World} {R : List Run} {v : Value} (h : repS N w (RunsT tR R) v) (hd : ∀ k, v.ownBlock = some k → k ∉ N) {i : Nat} (hi : i < R.length) :
  ∃ a c v6, v = .slice (some a) R.length c ∧ w.cell? (a.add (i * 7)) = some (.string R[i].Name) ∧ w.cell? ⟨(a.add (i * 7)).block, (a.add (i * 7)).off + 1, none⟩ = some (.bool R[i].Over) ∧ w.cell? ⟨(a.add (i * 7)).block, (a.add (i * 7)).off + 2, none⟩ = some (.bool R[i].Fail) ∧ w.cell? ⟨(a.add (i * 7)).block, (a.add (i * 7)).off + 3, none⟩ = some (.string R[i].Text) ∧ w.cell? ⟨(a.add (i * 7)).block, (a.add (i * 7)).off + 4, none⟩ = some (.int .i64 R[i].At) ∧ w.cell? ⟨(a.add (i * 7)).block, (a.add (i * 7)).off + 5, none⟩ = some (.int .i64 R[i].Visits) ∧ w.cell? ⟨(a.add (i * 7)).block, (a.add (i * 7)).off + 6, none⟩ = some v6 ∧ rep w (strsT 9 R[i].Texts) v6 ∧ repsS N w (Run.c R[i]) [.string R[i].Name, .bool R[i].Over, .bool R[i].Fail, .string R[i].Text, .int .i64 R[i].At, .int .i64 R[i].Visits, v6] := by
 obtain ⟨a, c, v6, he, k0, k1, k2, k3, k4, k5, k6, hk6, _⟩ := Run.elem h.rep hi
 refine ⟨a, c, v6, he, k0, k1, k2, k3, k4, k5, k6, hk6, fun w' hm => ?_⟩
 obtain ⟨a', c', v6', he', j0, j1, j2, j3, j4, j5, j6, _, hr⟩ := Run.elem (h w' hm) hi
 rw [he] at he'
 cases he'
 have hb := hm.block _ (cell_lt0 k6) (hd _ (by rw [he]; simp only [Value.ownBlock, Addr.add]; split <;> rfl))
 have e6 := (World.cell?_of_block hb).symm.trans j6
 rw [k6] at e6
 cases e6
 exact hr
theorem putS_no {r x : Run} {acc : List Run} {d : Bool} (h : d = true ∨ ltS x.Name r.Name = true) : putA r (acc, d) x = (acc, d) := by
 unfold putA; rcases h with h | h <;> simp [h]
theorem putS_yes {r x : Run} {acc : List Run} (h : ltS x.Name r.Name = false) : putA r (acc, false) x = (acc ++ [r], true) := by
 unfold putA; simp [h]
theorem putB_eq {r x : Run} {st : List Run × Bool} (h : x.Name = r.Name) : putB r st x = st := by unfold putB; rw [(rIs_iff _ _).2 h]; rfl
theorem putB_ne {r x : Run} {st : List Run × Bool} (h : x.Name ≠ r.Name) : putB r st x = (st.1 ++ [x], st.2) := by unfold putB; rw [rIs_ne h]; rfl
set_option maxRecDepth 100000 in
set_option maxHeartbeats 4000000 in
theorem l4Put_calls {N : List Nat} {tR : Nat} (R : List Run) (r : Run) (v : Value) (w : World) {us : List Value} (h : repS N w (RunsT tR R) v) (hd : ∀ k, v.ownBlock = some k → k ∉ N) (h' : reps w (Run.c r) us) (hN : ∀ b ∈ N, b < w.heap.size) (hR : R.length ≤ 100000) (hT : r.Texts.length ≤ 1000000) :
  Calls Tryz.prog 135 #[v, .agg us.toArray] w (RunsP w.heap.size N (putL R r) w) := by
 obtain ⟨A, c, rfl, _, _⟩ := rep_len h.rep
 obtain ⟨v6, rfl, h6⟩ := Run.ropen h'
 obtain ⟨B, d, rfl, _, _⟩ := rep_len h6
 replace h := Asd.mk h
 replace h6 := Asd.mk h6
 replace hd := Asd.mk hd
 replace hN := Asd.mk hN
 clear h'
 go_enter Tryz.func135, Tryz.ntmps135
 go_upto_region 1 with (fail)
 obtain ⟨X, eX⟩ : ∃ X : World, X = w.alloc (.cells #[.string r.Name, .bool r.Over, .bool r.Fail, .string r.Text, .int .i64 r.At, .int .i64 r.Visits, .slice B r.Texts.length d] 84) := ⟨_, rfl⟩
 rw [← eX]
 have hbX := Asd.mk (show Below w.heap.size w X from eX ▸ below_al (Below.refl _ _) _)
 have hX := Asd.mk (show X.heap[w.heap.size]? = _ from eX ▸ heap_alloc_new _ _)
 have zX : w.heap.size < X.heap.size := by rw [eX]; simp
 have x6 := cellOf hX.out (i := 6) rfl
 clear eX
 go_wp2_with (at_builtin; refine appNew rfl rfl rfl rfl rfl (h6.out.below hbX.out) hT ?_)
 intro v1 w1 hL1 hb1 hz1
 obtain ⟨B1, d1, rfl, _, _⟩ := hL1.slice
 have hX1 := Asd.mk ((hb1.block _ zX).trans hX.out)
 have x61 := cellOf hX1.out (i := 6) rfl
 have f61 := frozenOf hX1.out 6
 replace hb1 := Asd.mk hb1
 replace hL1 := Asd.mk hL1
 clear x6
 go_upto_region 2 with (fail)
 obtain ⟨X2, eX⟩ : ∃ X2 : World, X2 = w1.setCell ⟨w.heap.size, 6, none⟩ (.slice B1 r.Texts.length d1) := ⟨_, rfl⟩
 rw [← eX]
 have hbX2 := Asd.mk (show Below w.heap.size w X2 from eX ▸ (below_st hbX.out hb1.out).setCell (by simp) _)
 have hX2 := Asd.mk (show X2.heap[w.heap.size]? = _ from eX ▸ heap_set1 hX1.out 6 _)
 have zX2 : w.heap.size < X2.heap.size := by rw [eX]; simp; omega
 have hr2 := Asd.mk (show repS N X2 (strsT 9 r.Texts) (.slice B1 r.Texts.length d1) from by
  rw [eX]
  obtain ⟨F, f1, f2, f3⟩ := hL1.out.set (p := ⟨w.heap.size, 6, none⟩) zX (.slice B1 r.Texts.length d1)
  exact repS.of_own f1 (fun b hb hn => by have h1 := f3 b hb; have h2 := hN.out b hn; omega))
 clear eX hX hX1 hbX hb1 hL1 x61 f61
 have hrr := Asd.mk (show repsS N X2 (Run.c r) _ from fun w2 h2 => Run.rmk r (hr2.out w2 h2))
 have hbox := Asd.mk (fun (Z : World) (hb : Below X2.heap.size X2 Z) => (⟨cell_below hb (cellOf hX2.out (i := 0) rfl), cell_below hb (cellOf hX2.out (i := 1) rfl), cell_below hb (cellOf hX2.out (i := 2) rfl), cell_below hb (cellOf hX2.out (i := 3) rfl), cell_below hb (cellOf hX2.out (i := 4) rfl), cell_below hb (cellOf hX2.out (i := 5) rfl), cell_below hb (cellOf hX2.out (i := 6) rfl)⟩ : Z.cell? ⟨w.heap.size, 0, none⟩ = some (.string r.Name) ∧ Z.cell? ⟨w.heap.size, 1, none⟩ = some (.bool r.Over) ∧ Z.cell? ⟨w.heap.size, 2, none⟩ = some (.bool r.Fail) ∧ Z.cell? ⟨w.heap.size, 3, none⟩ = some (.string r.Text) ∧ Z.cell? ⟨w.heap.size, 4, none⟩ = some (.int .i64 r.At) ∧ Z.cell? ⟨w.heap.size, 5, none⟩ = some (.int .i64 r.Visits) ∧ Z.cell? ⟨w.heap.size, 6, none⟩ = some (.slice B1 r.Texts.length d1)))
 go_wp2
 go_loopw [5, 6, 7] (fun s5 s6 i wr => ∃ (k : Nat) (acc : List Run) (d : Bool), k ≤ R.length ∧ i = .int .i64 k ∧ s6 = .bool d ∧ putK R r k = (acc, d) ∧ RowN N X2.heap.size wr 84 7 acc.length (acc.flatMap Run.c) s5 ∧ Below X2.heap.size X2 wr) (fun _ _ i _ => R.length - (intOf i).toNat)
 case atStart => exact ⟨0, [], false, by omega, rfl, rfl, putK_zero _ _, RowN.empty N X2 84 7, by repeat first|with_reducible (first|exact Below.refl _ _|exact Below.refl _ _|refine below_al ?_ _|refine below_dr ?_ _|refine below_d1 ?_)|(with_reducible refine Below.setCell ?_ ?_ _;rotate_left;next => first|(simp;done)|(simp;omega)|omega)⟩
 case round =>
  obtain ⟨k, acc, d, hk, rfl, rfl, hp, hRw, hbr⟩ := hrel
  have hal : acc.length ≤ 200000 := by have := putK_len R r k; rw [hp] at this; simp at this; omega
  obtain ⟨Ac, dc, rfl, hdc⟩ := hRw.slice
  by_cases hlt : k < R.length
  ·obtain ⟨a, c', v6, he, k0, k1, k2, k3, k4, k5, k6, hk6, hkr⟩ := Run.elemS (h.out.go (MFr.of_below hbX2.out)) hd.out hlt
   cases he
   obtain ⟨Bk, dk, rfl, _, _⟩ := rep_len hk6
   have e1 := Asd.mk (putK_succ (r := r) hlt)
   rw [hp] at e1
   replace hkr := Asd.mk hkr
   replace hRw := Asd.mk hRw
   replace hbr := Asd.mk hbr
   clear hk6
   cases d with
   | true =>
    have hA := putS_no (r := r) (x := R[k]) (acc := acc) (d := true) (.inl rfl)
    replace hA := Asd.mk hA
    obtain ⟨g0, g1, g2, g3, g4, g5, g6⟩ := hbox.out wr hbr.out
    have q0 := cell_below hbr.out k0
    have q1 := cell_below hbr.out k1
    have q2 := cell_below hbr.out k2
    have q3 := cell_below hbr.out k3
    have q4 := cell_below hbr.out k4
    have q5 := cell_below hbr.out k5
    have q6 := cell_below hbr.out k6
    go_wp2
    go_quiet (fail)
    by_cases hn : R[k].Name = r.Name
    ·have he1 : (R[k].Name.toList == r.Name.toList) = true := (ba_eq _ _).2 hn
     have he2 : (R[k].Name.toList != r.Name.toList) = false := by simp [hn]
     have e2 := Asd.mk (show putK R r (k + 1) = (acc, true) by rw [e1.out, putS, hA.out, putB_eq hn])
     clear hn
     go_wp2
     go_quiet (fail)
     go_wp2
     go_roundw
     case rel => exact ⟨k + 1, _, _, by omega, by go_num, rfl, e2.out, hRw.out.later (by repeat first|with_reducible (first|exact Below.refl _ _|exact Below.refl _ _|refine below_al ?_ _|refine below_dr ?_ _|refine below_d1 ?_)|(with_reducible refine Below.setCell ?_ ?_ _;rotate_left;next => first|(simp;done)|(simp;omega)|omega)), by repeat first|with_reducible (first|exact Below.refl _ _|exact hbr.out|refine below_al ?_ _|refine below_dr ?_ _|refine below_d1 ?_)|(with_reducible refine Below.setCell ?_ ?_ _;rotate_left;next => first|(simp;done)|(simp;omega)|omega)⟩
     case measure => simp [intOf]; omega
    ·have he1 : (R[k].Name.toList == r.Name.toList) = false := by rw [Bool.eq_false_iff]; exact fun h => hn ((ba_eq _ _).1 h)
     have he2 : (R[k].Name.toList != r.Name.toList) = true := by rw [bne, he1]; rfl
     have e2 := Asd.mk (show putK R r (k + 1) = (acc ++ [R[k]], true) by rw [e1.out, putS, hA.out, putB_ne hn])
     clear hn
     go_wp2
     go_quiet (fail)
     go_wp2_with (at_builtin; refine appN rfl rfl Tryz.underlying36 info_Run rfl (by decide) rfl (lo := X2.heap.size) (wr := wr) (hbr.out.size) hRw.out (by repeat first|with_reducible (first|exact Below.refl _ _|exact Below.refl _ _|refine below_al ?_ _|refine below_dr ?_ _|refine below_d1 ?_)|(with_reducible refine Below.setCell ?_ ?_ _;rotate_left;next => first|(simp;done)|(simp;omega)|omega)) rfl (World.news_of_block (heap_alloc_new _ _)) (by simp) (repsS.ofN hkr.out (by repeat first|with_reducible (first|exact Below.refl _ _|exact hbr.out|refine below_al ?_ _|refine below_dr ?_ _|refine below_d1 ?_)|(with_reducible refine Below.setCell ?_ ?_ _;rotate_left;next => first|(simp;done)|(simp;omega)|omega)) hRw.out.ge) (by simp [maxLen]; omega) (by omega) ?_)
     intro v8 w8 hR8 hm8 hk8
     have hb8 := Asd.mk (hm8.upon (show Below X2.heap.size X2 _ from by repeat first|with_reducible (first|exact Below.refl _ _|exact hbr.out|refine below_al ?_ _|refine below_dr ?_ _|refine below_d1 ?_)|(with_reducible refine Below.setCell ?_ ?_ _;rotate_left;next => first|(simp;done)|(simp;omega)|omega)) (Nat.le_refl _) hRw.out.ge)
     replace hR8 := Asd.mk hR8
     clear hm8 hk8
     go_wp2
     go_roundw
     case rel => exact ⟨k + 1, _, _, by omega, by go_num, rfl, e2.out, by rw [flat_snoc, List.length_append]; exact hR8.out, hb8.out⟩
     case measure => simp [intOf]; omega
   | false =>
    by_cases hl : ltS R[k].Name r.Name = true
    ·have hA := Asd.mk (putS_no (r := r) (x := R[k]) (acc := acc) (d := false) (.inr hl))
     replace hl : Op.bytesLess R[k].Name.toList r.Name.toList = true := hl
     obtain ⟨g0, g1, g2, g3, g4, g5, g6⟩ := hbox.out wr hbr.out
     have q0 := cell_below hbr.out k0
     have q1 := cell_below hbr.out k1
     have q2 := cell_below hbr.out k2
     have q3 := cell_below hbr.out k3
     have q4 := cell_below hbr.out k4
     have q5 := cell_below hbr.out k5
     have q6 := cell_below hbr.out k6
     go_wp2
     go_quiet (fail)
     by_cases hn : R[k].Name = r.Name
     ·have he1 : (R[k].Name.toList == r.Name.toList) = true := (ba_eq _ _).2 hn
      have he2 : (R[k].Name.toList != r.Name.toList) = false := by simp [hn]
      have e2 := Asd.mk (show putK R r (k + 1) = (acc, false) by rw [e1.out, putS, hA.out, putB_eq hn])
      clear hn
      go_wp2
      go_quiet (fail)
      go_wp2
      go_roundw
      case rel => exact ⟨k + 1, _, _, by omega, by go_num, rfl, e2.out, hRw.out.later (by repeat first|with_reducible (first|exact Below.refl _ _|exact Below.refl _ _|refine below_al ?_ _|refine below_dr ?_ _|refine below_d1 ?_)|(with_reducible refine Below.setCell ?_ ?_ _;rotate_left;next => first|(simp;done)|(simp;omega)|omega)), by repeat first|with_reducible (first|exact Below.refl _ _|exact hbr.out|refine below_al ?_ _|refine below_dr ?_ _|refine below_d1 ?_)|(with_reducible refine Below.setCell ?_ ?_ _;rotate_left;next => first|(simp;done)|(simp;omega)|omega)⟩
      case measure => simp [intOf]; omega
     ·have he1 : (R[k].Name.toList == r.Name.toList) = false := by rw [Bool.eq_false_iff]; exact fun h => hn ((ba_eq _ _).1 h)
      have he2 : (R[k].Name.toList != r.Name.toList) = true := by rw [bne, he1]; rfl
      have e2 := Asd.mk (show putK R r (k + 1) = (acc ++ [R[k]], false) by rw [e1.out, putS, hA.out, putB_ne hn])
      clear hn
      go_wp2
      go_quiet (fail)
      go_wp2_with (at_builtin; refine appN rfl rfl Tryz.underlying36 info_Run rfl (by decide) rfl (lo := X2.heap.size) (wr := wr) (hbr.out.size) hRw.out (by repeat first|with_reducible (first|exact Below.refl _ _|exact Below.refl _ _|refine below_al ?_ _|refine below_dr ?_ _|refine below_d1 ?_)|(with_reducible refine Below.setCell ?_ ?_ _;rotate_left;next => first|(simp;done)|(simp;omega)|omega)) rfl (World.news_of_block (heap_alloc_new _ _)) (by simp) (repsS.ofN hkr.out (by repeat first|with_reducible (first|exact Below.refl _ _|exact hbr.out|refine below_al ?_ _|refine below_dr ?_ _|refine below_d1 ?_)|(with_reducible refine Below.setCell ?_ ?_ _;rotate_left;next => first|(simp;done)|(simp;omega)|omega)) hRw.out.ge) (by simp [maxLen]; omega) (by omega) ?_)
      intro v8 w8 hR8 hm8 hk8
      have hb8 := Asd.mk (hm8.upon (show Below X2.heap.size X2 _ from by repeat first|with_reducible (first|exact Below.refl _ _|exact hbr.out|refine below_al ?_ _|refine below_dr ?_ _|refine below_d1 ?_)|(with_reducible refine Below.setCell ?_ ?_ _;rotate_left;next => first|(simp;done)|(simp;omega)|omega)) (Nat.le_refl _) hRw.out.ge)
      replace hR8 := Asd.mk hR8
      clear hm8 hk8
      go_wp2
      go_roundw
      case rel => exact ⟨k + 1, _, _, by omega, by go_num, rfl, e2.out, by rw [flat_snoc, List.length_append]; exact hR8.out, hb8.out⟩
      case measure => simp [intOf]; omega
    ·have hl := Bool.eq_false_iff.2 hl
     have hA := Asd.mk (putS_yes (r := r) (x := R[k]) (acc := acc) hl)
     replace hl : Op.bytesLess R[k].Name.toList r.Name.toList = false := hl
     obtain ⟨g0, g1, g2, g3, g4, g5, g6⟩ := hbox.out wr hbr.out
     have q0 := cell_below hbr.out k0
     have q1 := cell_below hbr.out k1
     have q2 := cell_below hbr.out k2
     have q3 := cell_below hbr.out k3
     have q4 := cell_below hbr.out k4
     have q5 := cell_below hbr.out k5
     have q6 := cell_below hbr.out k6
     go_wp2
     go_quiet (fail)
     go_wp2_with (at_builtin; refine appN rfl rfl Tryz.underlying36 info_Run rfl (by decide) rfl (lo := X2.heap.size) (wr := wr) (hbr.out.size) hRw.out (by repeat first|with_reducible (first|exact Below.refl _ _|exact Below.refl _ _|refine below_al ?_ _|refine below_dr ?_ _|refine below_d1 ?_)|(with_reducible refine Below.setCell ?_ ?_ _;rotate_left;next => first|(simp;done)|(simp;omega)|omega)) rfl (World.news_of_block (heap_alloc_new _ _)) (by simp) (repsS.ofN hrr.out (by repeat first|with_reducible (first|exact Below.refl _ _|exact hbr.out|refine below_al ?_ _|refine below_dr ?_ _|refine below_d1 ?_)|(with_reducible refine Below.setCell ?_ ?_ _;rotate_left;next => first|(simp;done)|(simp;omega)|omega)) hRw.out.ge) (by simp [maxLen]; omega) (by omega) ?_)
     intro v7 w7 hR7 hm7 hk7
     have hb7 := Asd.mk (hm7.upon (show Below X2.heap.size X2 _ from by repeat first|with_reducible (first|exact Below.refl _ _|exact hbr.out|refine below_al ?_ _|refine below_dr ?_ _|refine below_d1 ?_)|(with_reducible refine Below.setCell ?_ ?_ _;rotate_left;next => first|(simp;done)|(simp;omega)|omega)) (Nat.le_refl _) hRw.out.ge)
     replace hR7 : RowN N X2.heap.size w7 84 7 (acc ++ [r]).length ((acc ++ [r]).flatMap Run.c) v7 := by rw [flat_snoc, List.length_append]; exact hR7
     obtain ⟨A7, d7, rfl, _⟩ := hR7.slice
     replace hR7 := Asd.mk hR7
     clear hm7 hk7
     clear g0 g1 g2 g3 g4 g5 g6 q0 q1 q2 q3 q4 q5 q6
     obtain ⟨g0, g1, g2, g3, g4, g5, g6⟩ := hbox.out w7 hb7.out
     have q0 := cell_below hb7.out k0
     have q1 := cell_below hb7.out k1
     have q2 := cell_below hb7.out k2
     have q3 := cell_below hb7.out k3
     have q4 := cell_below hb7.out k4
     have q5 := cell_below hb7.out k5
     have q6 := cell_below hb7.out k6
     have hal7 : (acc ++ [r]).length ≤ 200001 := by simp; omega
     obtain ⟨acc7, hacc⟩ : ∃ acc7, acc ++ [r] = acc7 := ⟨_, rfl⟩
     rw [hacc] at hR7 hA hal7 ⊢
     clear hacc
     by_cases hn : R[k].Name = r.Name
     ·have he1 : (R[k].Name.toList == r.Name.toList) = true := (ba_eq _ _).2 hn
      have he2 : (R[k].Name.toList != r.Name.toList) = false := by simp [hn]
      have e2 := Asd.mk (show putK R r (k + 1) = (acc7, true) by rw [e1.out, putS, hA.out, putB_eq hn])
      clear hn
      go_wp2
      go_quiet (fail)
      go_wp2
      go_roundw
      case rel => exact ⟨k + 1, _, _, by omega, by go_num, rfl, e2.out, hR7.out.later (by repeat first|with_reducible (first|exact Below.refl _ _|exact Below.refl _ _|refine below_al ?_ _|refine below_dr ?_ _|refine below_d1 ?_)|(with_reducible refine Below.setCell ?_ ?_ _;rotate_left;next => first|(simp;done)|(simp;omega)|omega)), by repeat first|with_reducible (first|exact Below.refl _ _|exact hb7.out|refine below_al ?_ _|refine below_dr ?_ _|refine below_d1 ?_)|(with_reducible refine Below.setCell ?_ ?_ _;rotate_left;next => first|(simp;done)|(simp;omega)|omega)⟩
      case measure => simp [intOf]; omega
     ·have he1 : (R[k].Name.toList == r.Name.toList) = false := by rw [Bool.eq_false_iff]; exact fun h => hn ((ba_eq _ _).1 h)
      have he2 : (R[k].Name.toList != r.Name.toList) = true := by rw [bne, he1]; rfl
      have e2 := Asd.mk (show putK R r (k + 1) = (acc7 ++ [R[k]], true) by rw [e1.out, putS, hA.out, putB_ne hn])
      clear hn
      go_wp2
      go_quiet (fail)
      go_wp2_with (at_builtin; refine appN rfl rfl Tryz.underlying36 info_Run rfl (by decide) rfl (lo := X2.heap.size) (wr := w7) (hb7.out.size) hR7.out (by repeat first|with_reducible (first|exact Below.refl _ _|exact Below.refl _ _|refine below_al ?_ _|refine below_dr ?_ _|refine below_d1 ?_)|(with_reducible refine Below.setCell ?_ ?_ _;rotate_left;next => first|(simp;done)|(simp;omega)|omega)) rfl (World.news_of_block (heap_alloc_new _ _)) (by simp) (repsS.ofN hkr.out (by repeat first|with_reducible (first|exact Below.refl _ _|exact hb7.out|refine below_al ?_ _|refine below_dr ?_ _|refine below_d1 ?_)|(with_reducible refine Below.setCell ?_ ?_ _;rotate_left;next => first|(simp;done)|(simp;omega)|omega)) hR7.out.ge) (by simp [maxLen]; omega) (by omega) ?_)
      intro v8 w8 hR8 hm8 hk8
      have hb8 := Asd.mk (hm8.upon (show Below X2.heap.size X2 _ from by repeat first|with_reducible (first|exact Below.refl _ _|exact hb7.out|refine below_al ?_ _|refine below_dr ?_ _|refine below_d1 ?_)|(with_reducible refine Below.setCell ?_ ?_ _;rotate_left;next => first|(simp;done)|(simp;omega)|omega)) (Nat.le_refl _) hR7.out.ge)
      replace hR8 := Asd.mk hR8
      clear hm8 hk8
      go_wp2
      go_roundw
      case rel => exact ⟨k + 1, _, _, by omega, by go_num, rfl, e2.out, by rw [flat_snoc, List.length_append]; exact hR8.out, hb8.out⟩
      case measure => simp [intOf]; omega
  ·obtain rfl : k = R.length := by omega
   replace hRw := Asd.mk hRw
   replace hbr := Asd.mk hbr
   obtain ⟨g0, g1, g2, g3, g4, g5, g6⟩ := hbox.out wr hbr.out
   cases d with
   | true =>
    have e2 := Asd.mk (show putL R r = acc by unfold putL; rw [hp]; rfl)
    go_wp2
    go_ret
    exact ⟨_, rfl, by rw [e2.out]; exact hRw.out.mono (by omega), below_st hbX2.out (show Below X2.heap.size X2 wr from hbr.out)⟩
   | false =>
    have e2 := Asd.mk (show putL R r = acc ++ [r] by unfold putL; rw [hp]; rfl)
    go_wp2_with (at_builtin; refine appN rfl rfl Tryz.underlying36 info_Run rfl (by decide) rfl (lo := X2.heap.size) (wr := wr) (hbr.out.size) hRw.out (by repeat first|with_reducible (first|exact Below.refl _ _|exact Below.refl _ _|refine below_al ?_ _|refine below_dr ?_ _|refine below_d1 ?_)|(with_reducible refine Below.setCell ?_ ?_ _;rotate_left;next => first|(simp;done)|(simp;omega)|omega)) rfl (World.news_of_block (heap_alloc_new _ _)) (by simp) (repsS.ofN hrr.out (by repeat first|with_reducible (first|exact Below.refl _ _|exact hbr.out|refine below_al ?_ _|refine below_dr ?_ _|refine below_d1 ?_)|(with_reducible refine Below.setCell ?_ ?_ _;rotate_left;next => first|(simp;done)|(simp;omega)|omega)) hRw.out.ge) (by simp [maxLen]; omega) (by omega) ?_)
    intro v7 w7 hR7 hm7 hk7
    have hb7 := Asd.mk (hm7.upon (show Below X2.heap.size X2 _ from by repeat first|with_reducible (first|exact Below.refl _ _|exact hbr.out|refine below_al ?_ _|refine below_dr ?_ _|refine below_d1 ?_)|(with_reducible refine Below.setCell ?_ ?_ _;rotate_left;next => first|(simp;done)|(simp;omega)|omega)) (Nat.le_refl _) hRw.out.ge)
    replace hR7 : RowN N X2.heap.size w7 84 7 (acc ++ [r]).length ((acc ++ [r]).flatMap Run.c) v7 := by rw [flat_snoc, List.length_append]; exact hR7
    obtain ⟨A7, d7, rfl, _⟩ := hR7.slice
    replace hR7 := Asd.mk hR7
    clear hm7 hk7
    go_wp2
    go_ret
    exact ⟨_, rfl, by rw [e2.out]; exact hR7.out.mono (by omega), below_st hbX2.out (show Below X2.heap.size X2 w7 from hb7.out)⟩
end Go.Proofs.YtkpkfihaihoaeaaGreatDoor.M
end
section
set_option linter.unusedVariables false
set_option linter.unusedSimpArgs false
namespace Go.Proofs.YtkpkfihaihoaeaaGreatDoor.M
open Go.RowKit

set_option maxRecDepth 100000 in
set_option maxHeartbeats 4000000 in
theorem l1Names_calls {ts : Nat} (xs : List ByteArray) (v : Value) (w : World) (h : rep w (strsT ts xs) v) :
  Calls Tryz.prog 131 #[v] w fun e w' => e = .returned (.bool (namesOk xs)) ∧ Below w.heap.size w w' := by
 obtain ⟨A, c, rfl, hc, hn⟩ := rep_len h
 have h := Asd.mk h
 go_enter Tryz.func131, Tryz.ntmps131
 go_wp2
 go_loopw [3] (fun i wr => ∃ k : Nat, k ≤ xs.length ∧ i = .int .i64 k ∧ nmTo xs k ∧ Below w.heap.size w wr) (fun i _ => xs.length - (intOf i).toNat)
 case atStart => exact ⟨0, by omega, rfl, nmTo_zero _, Below.refl _ _⟩
 case round =>
  obtain ⟨k, hk, rfl, hA, hbr⟩ := hrel
  by_cases hlt : k < xs.length
  ·obtain ⟨a, c', he, hcell⟩ := str_elem (h.out.below hbr) hlt
   cases he
   by_cases hx : nameOk xs[k] = true
   rotate_left
   ·have e1 := Hid.mk' (namesOk_not hlt (.inl (Bool.eq_false_iff.2 hx)))
    go_wp2_with (first | (go_at_call 129; refine (l1NameOk_calls _ _).mono ?_; rintro e w' ⟨rfl, rfl⟩))
    go_ret
    exact ⟨by rw [e1.out]; rfl, hbr⟩
   obtain ⟨wo, hwo⟩ : ∃ wo : World, wo = wr := ⟨_, rfl⟩
   subst hwo
   go_wp2_with (first | (go_at_call 129; refine (l1NameOk_calls _ _).mono ?_; rintro e w' ⟨rfl, rfl⟩))
   go_loopw [4] (fun i wr => ∃ m : Nat, m ≤ k ∧ i = .int .i64 m ∧ nqTo xs k m ∧ Below w.heap.size w wr) (fun i _ => k - (intOf i).toNat)
   case atStart => exact ⟨0, by omega, rfl, nqTo_zero _ _, hbr⟩
   case round =>
    obtain ⟨m, hm, rfl, hB, hbs⟩ := hrel
    by_cases hlt2 : m < k
    ·obtain ⟨a, c', he, hcell1⟩ := str_elem (h.out.below hbs) (show m < xs.length by omega)
     cases he
     obtain ⟨a, c', he, hcell2⟩ := str_elem (h.out.below hbs) hlt
     cases he
     cases hq : (xs[m].toList == xs[k].toList) with
     | true =>
      have e1 := Hid.mk' (namesOk_not hlt (.inr (mem_take hlt hlt2 hq)))
      go_wp2
      go_quiet (fail)
      go_wp2
      go_ret
      exact ⟨by rw [e1.out]; rfl, ⟨hbs.os, hbs.tape, hbs.output, hbs.size, hbs.block⟩⟩
     | false =>
      have e1 := nqTo_succ hB (by omega) hlt hq
      go_wp2
      go_quiet (fail)
      go_wp2
      go_roundw
      case rel => exact ⟨m + 1, by omega, by go_num, e1, ⟨hbs.os, hbs.tape, hbs.output, hbs.size, hbs.block⟩⟩
      case measure => simp [intOf]; omega
    ·obtain rfl : m = k := by omega
     have e1 := nmTo_succ hA hlt hx (nqTo_end hB hlt)
     go_wp2
     go_roundw
     case rel => exact ⟨m + 1, by omega, by go_num, e1, hbs⟩
     case measure => simp [intOf]; omega
  ·obtain rfl : k = xs.length := by omega
   have e1 := Hid.mk' ((namesOk_iff _).2 hA)
   go_wp2
   go_ret
   exact ⟨by rw [e1.out]; rfl, hbr⟩

end Go.Proofs.YtkpkfihaihoaeaaGreatDoor.M
end
section
set_option linter.unusedVariables false
set_option linter.unusedSimpArgs false
namespace Go.Proofs.YtkpkfihaihoaeaaGreatDoor.M
open Go.RowKit

theorem onOk_iff (x : Step) : onOk x = true ↔ x.On = 0 ∨ inB x.On 0 (x.Asks.length - 1) = true := by
 unfold onOk
 cases h : x.Asks with
 | nil => simp [inB]; omega
 | cons a r => simp [inB]; omega
set_option maxRecDepth 100000 in
set_option maxHeartbeats 4000000 in
theorem l1StepOk_calls {tc : Nat} (x : Step) (n : Int) (w : World) {vs : List Value} (h : reps w (x.c tc) vs) (hn0 : 0 ≤ n) (hn1 : n ≤ 9223372036854775807) (hz : x.Sm) :
    Calls Tryz.prog 173 #[.agg vs.toArray, .int .i64 n] w fun e w' => e = .returned (.bool (stepOk x n)) ∧ Below w.heap.size w w' := by
  unfold Step.Sm at hz
  obtain ⟨v0, v2, rfl, h0, h2⟩ := Step.ropen h
  obtain ⟨A0, c0, rfl, hc0, hn0⟩ := rep_len h0
  obtain ⟨A2, c2, rfl, hc2, hn2⟩ := rep_len h2
  have h0 := Asd.mk h0
  have h2 := Asd.mk h2
  clear h
  by_cases hE : x.End = true
  · go_enter Tryz.func173, Tryz.ntmps173
    go_wp2
    all_goals go_ret
    all_goals exact ⟨by first | (simp [stepOk, endOk, *]; done) | (simp [stepOk, endOk, *]; intros; omega), (Below.refl _ _).alloc (Nat.le_refl _) _⟩
  have hE := Bool.eq_false_iff.2 hE
  have hb := (Below.refl w.heap.size w).alloc (Nat.le_refl _) (.cells #[.slice A0 x.Asks.length c0, .int .i64 x.On, .slice A2 x.Cases.length c2, .int .i64 x.Else, .int .i64 x.Fall, .bool false, .bool x.Bad, .string x.Give] 121)
  by_cases hP : (preOk x n && namesOk x.Asks) = true
  rotate_left
  · have e1 := Hid.mk' (show stepOk x n = false by simp [stepOk, hE]; simp at hP; intro h; simp [hP h])
    have hP := Hid.mk' hP
    go_enter Tryz.func173, Tryz.ntmps173
    go_wp2_with (first | (go_at_call 113; refine (l1In_calls _ _ _ _).mono ?_; rintro e w' ⟨rfl, rfl⟩) | (go_at_call 131; refine (l1Names_calls x.Asks _ _ (h0.out.below ((Below.refl _ _).alloc (Nat.le_refl _) _))).mono ?_; rintro e w1 ⟨rfl, hb1⟩; obtain ⟨hcx, hfx⟩ := bcell hb1))
    all_goals try (go_ret; exact ⟨by rw [e1.out]; rfl, by first | exact (Below.refl _ _).alloc (Nat.le_refl _) _ | exact below_st ((Below.refl _ _).alloc (Nat.le_refl _) _) hb1⟩)
    all_goals (exfalso; refine hP.out ?_; obtain ⟨⟨q1, q2⟩, q3⟩ := ‹(_ ∧ _) ∧ _›; have q4 : x.Asks.length ≤ 5 := by omega
               have q5 : x.Cases.length ≤ 5 := by omega
               simp at q3; simp [preOk, *]; done)
  simp only [Bool.and_eq_true] at hP
  obtain ⟨hP, hN⟩ := hP
  obtain ⟨hB, hG, hAl, hCl, hEl, hFa⟩ := preOk_iff hP
  have hP := Hid.mk' hP
  by_cases hO : onOk x = true
  rotate_left
  · have e1 := Hid.mk' (stepOk_on (n := n) hE (Bool.eq_false_iff.2 hO))
    obtain ⟨q1, q2⟩ : ((x.On != 0) = true) ∧ inB x.On 0 (x.Asks.length - 1) = false := by
      have := mt (onOk_iff x).2 hO
      simp at this ⊢
      exact this
    have hO := Hid.mk' hO
    go_enter Tryz.func173, Tryz.ntmps173
    go_wp2_with (first | (go_at_call 113; refine (l1In_calls _ _ _ _).mono ?_; rintro e w' ⟨rfl, rfl⟩) | (go_at_call 131; refine (l1Names_calls x.Asks _ _ (h0.out.below ((Below.refl _ _).alloc (Nat.le_refl _) _))).mono ?_; rintro e w1 ⟨rfl, hb1⟩; obtain ⟨hcx, hfx⟩ := bcell hb1))
    go_ret
    exact ⟨by rw [e1.out]; rfl, below_st ((Below.refl _ _).alloc (Nat.le_refl _) _) hb1⟩
  have hc : ((x.On != 0) = false) ∨ (((x.On != 0) = true) ∧ inB x.On 0 (x.Asks.length - 1) = true) := by
    rcases (onOk_iff x).1 hO with h | h
    · left; simp [h]
    · by_cases h' : x.On = 0
      · left; simp [h']
      · right; exact ⟨by simp [h'], h⟩
  have hO' := Hid.mk' hO
  clear hO
  rcases hc with q1 | ⟨q1, q2⟩
  all_goals
    go_enter Tryz.func173, Tryz.ntmps173
    go_wp2_with (first | (go_at_call 113; refine (l1In_calls _ _ _ _).mono ?_; rintro e w' ⟨rfl, rfl⟩) | (go_at_call 131; refine (l1Names_calls x.Asks _ _ (h0.out.below ((Below.refl _ _).alloc (Nat.le_refl _) _))).mono ?_; rintro e w1 ⟨rfl, hb1⟩; obtain ⟨hcx, hfx⟩ := bcell hb1))
    have h2' := h2.out.below (below_st ((Below.refl _ _).alloc (Nat.le_refl _) _) hb1)
    go_loop [5] (fun i => ∃ k : Nat, k ≤ x.Cases.length ∧ i = .int .i64 k ∧ allTo (caseOk n) x.Cases k) (fun i => x.Cases.length - (intOf i).toNat)
    case atStart => exact ⟨0, by omega, rfl, allTo_zero _ _⟩
    case round =>
      obtain ⟨k, hk, rfl, hA2⟩ := hrel
      by_cases hlt : k < x.Cases.length
      · obtain ⟨a, c', he, k0, k1, _⟩ := Case.elem h2' hlt
        cases he
        by_cases hx : caseOk n x.Cases[k] = true
        · have e1 := allTo_succ hA2 hlt hx
          obtain ⟨r1, r2⟩ : x.Cases[k].Text.size ≤ 200 ∧ inB x.Cases[k].Goto 0 (n - 1) = true := by simpa [caseOk] using hx
          have hx := Hid.mk' hx
          go_wp2_with (first | (go_at_call 113; refine (l1In_calls _ _ _ _).mono ?_; rintro e w' ⟨rfl, rfl⟩))
          go_round
          case rel => exact ⟨k + 1, by omega, by go_num, e1⟩
          case measure => simp [intOf]; omega
        · have e1 := Hid.mk' (stepOk_cases hE (allTo_not hlt (Bool.eq_false_iff.2 hx)))
          have hx := Hid.mk' hx
          go_wp2_with (first | (go_at_call 113; refine (l1In_calls _ _ _ _).mono ?_; rintro e w' ⟨rfl, rfl⟩))
          all_goals first
            | (go_ret; exact ⟨by rw [e1.out]; rfl, below_st ((Below.refl _ _).alloc (Nat.le_refl _) _) hb1⟩)
            | (exfalso; refine hx.out ?_; obtain ⟨q3, q4⟩ := ‹_ ∧ _›; simp at q4; simp [caseOk, q4]; omega)
      · obtain rfl : k = x.Cases.length := by omega
        have e1 := Hid.mk' (stepOk_yes hE hP.out hN hO'.out (allTo_end hA2))
        go_wp2
        go_ret
        exact ⟨by rw [e1.out]; rfl, below_st ((Below.refl _ _).alloc (Nat.le_refl _) _) hb1⟩

set_option maxRecDepth 100000 in
set_option maxHeartbeats 4000000 in
theorem sValidAction_calls {tS tC : Nat} (x : Action) (w : World) {vs : List Value} (h : reps w (x.c tS tC) vs) (hz : x.Sm) :
  Calls Tryz.prog 130 #[.agg vs.toArray] w fun e w' => e = .returned (.bool (actionOk x)) ∧ Below w.heap.size w w' := by
 obtain ⟨v1, rfl, h1⟩ := Action.ropen h
 obtain ⟨A1, c1, rfl, hc1, hn1⟩ := rep_len h1
 have h1 := Asd.mk h1
 clear h
 by_cases p1 : inB x.Cost 1 20 = true
 rotate_left
 ·have e1 := Hid.mk' (show actionOk x = false by simp [actionOk, p1])
  go_enter Tryz.func130, Tryz.ntmps130
  go_wp2_with (first | (go_at_call 113; refine (l1In_calls _ _ _ _).mono ?_; rintro e w' ⟨rfl, rfl⟩))
  go_ret
  exact ⟨by rw [e1.out]; rfl, (Below.refl _ _).alloc (Nat.le_refl _) _⟩
 by_cases p2 : inB x.Steps.length 1 20 = true
 rotate_left
 ·have e1 := Hid.mk' (show actionOk x = false by simp [actionOk, p2])
  go_enter Tryz.func130, Tryz.ntmps130
  go_wp2_with (first | (go_at_call 113; refine (l1In_calls _ _ _ _).mono ?_; rintro e w' ⟨rfl, rfl⟩))
  go_ret
  exact ⟨by rw [e1.out]; rfl, (Below.refl _ _).alloc (Nat.le_refl _) _⟩
 have hs : x.Steps.length ≤ 20 := by simp [inB] at p2; omega
 go_enter Tryz.func130, Tryz.ntmps130
 go_wp2_with (first | (go_at_call 113; refine (l1In_calls _ _ _ _).mono ?_; rintro e w' ⟨rfl, rfl⟩))
 go_loopw [4] (fun i wr => ∃ k : Nat, k ≤ x.Steps.length ∧ i = .int .i64 k ∧ allTo (stepOkN x.Steps.length) x.Steps k ∧ Below w.heap.size w wr ∧ w.heap.size < wr.heap.size ∧ wr.cell? ⟨w.heap.size, 1, none⟩ = some (.slice A1 x.Steps.length c1)) (fun i _ => x.Steps.length - (intOf i).toNat)
 case atStart => exact ⟨0, by omega, rfl, allTo_zero _ _, (Below.refl _ _).alloc (Nat.le_refl _) _, by simp, by go_simp⟩
 case round =>
  obtain ⟨k, hk, rfl, hA2, hbr, hsz, hcl⟩ := hrel
  by_cases hlt : k < x.Steps.length
  ·obtain ⟨a, c', v0, v2, he, k0, k1, k2, k3, k4, k5, k6, k7, h0, h2, hr⟩ := Step.elem (h1.out.below hbr) hlt
   cases he
   obtain ⟨B0, b0, rfl, _, _⟩ := rep_len h0
   obtain ⟨B2, b2, rfl, _, _⟩ := rep_len h2
   have hr := Asd.mk hr
   clear h0 h2
   have hsm := hz _ (List.getElem_mem hlt)
   by_cases hx : stepOk x.Steps[k] x.Steps.length = true
   ·have e1 := allTo_succ (p := stepOkN x.Steps.length) hA2 hlt hx
    go_wp2_with (first | (go_at_call 173; refine (l1StepOk_calls x.Steps[k] x.Steps.length _ hr.out (by omega) (by omega) hsm).mono ?_; rintro e w2 ⟨rfl, hb2⟩))
    go_roundw
    case rel => exact ⟨k + 1, by omega, by go_num, e1, below_st hbr hb2, by have := hb2.size; omega, by rw [hb2.cell (by simp; omega)]; exact hcl⟩
    case measure => simp [intOf]; omega
   ·have e1 := Hid.mk' (show actionOk x = false by simp only [actionOk]; rw [allTo_not (p := stepOkN x.Steps.length) hlt (Bool.eq_false_iff.2 hx)]; simp)
    go_wp2_with (first | (go_at_call 173; refine (l1StepOk_calls x.Steps[k] x.Steps.length _ hr.out (by omega) (by omega) hsm).mono ?_; rintro e w2 ⟨rfl, hb2⟩))
    go_ret
    exact ⟨by rw [e1.out]; rfl, below_st hbr hb2⟩
  ·obtain rfl : k = x.Steps.length := by omega
   have e1 := Hid.mk' (show actionOk x = true by simp only [actionOk, p1, p2, allTo_end hA2]; rfl)
   go_wp2
   go_ret
   exact ⟨by rw [e1.out]; rfl, hbr⟩

end Go.Proofs.YtkpkfihaihoaeaaGreatDoor.M
end
section
set_option linter.unusedVariables false
set_option linter.unusedSimpArgs false
namespace Go.Proofs.YtkpkfihaihoaeaaGreatDoor.M
open Go.RowKit

set_option maxRecDepth 100000 in
set_option maxHeartbeats 2000000 in
theorem sCheckWeb_calls {tN tS tC : Nat} (x : Web) (w : World) {vs : List Value} (h : reps w (x.c tN tS tC) vs) (hz : x.Sm) :
  Calls Tryz.prog 67 #[.agg vs.toArray] w fun e w' => e = .returned (.int .i64 (checkWeb x)) ∧ Below w.heap.size w w' := by
 have hbox : ∀ o, Below w.heap.size w (w.alloc o) := fun o => (Below.refl _ _).alloc (Nat.le_refl _) o
 obtain ⟨v0, rfl, h0⟩ := Web.ropen h
 obtain ⟨A0, c0, rfl, _, hn⟩ := rep_len h0
 replace h0 := Asd.mk h0
 clear h
 by_cases p1 : 60 < x.Nodes.length
 ·have e1 := Hid.mk' (checkWeb1 p1)
  go_enter Tryz.func67, Tryz.ntmps67
  go_wp2
  go_ret
  exact ⟨by rw [e1.out]; rfl, hbox _⟩
 go_enter Tryz.func67, Tryz.ntmps67
 go_wp2
 go_loopw [3] (fun i wr => ∃ k : Nat, k ≤ x.Nodes.length ∧ i = .int .i64 k ∧ allTo nodeNameOk x.Nodes k ∧ Below w.heap.size w wr ∧ w.heap.size < wr.heap.size ∧ wr.cell? ⟨w.heap.size, 0, none⟩ = some (.slice A0 x.Nodes.length c0)) (fun i _ => x.Nodes.length - (intOf i).toNat)
 case atStart => exact ⟨0, by omega, rfl, allTo_zero _ _, hbox _, by simp, by go_simp⟩
 case round =>
  obtain ⟨k, hk, rfl, hA, hbr, hsz, hcl⟩ := hrel
  by_cases hlt : k < x.Nodes.length
  ·obtain ⟨a, c', v2, he, k0, k1, k2, h2, hr⟩ := Node.elem (h0.out.below hbr) hlt
   cases he
   obtain ⟨B2, b2, rfl, _, _⟩ := rep_len h2
   clear h2 hr
   by_cases hx : nameOk x.Nodes[k].Name = true
   ·have e1 := allTo_succ (p := nodeNameOk) hA hlt hx
    go_wp2_with (first | (go_at_call 129; refine (l1NameOk_calls _ _).mono ?_; rintro e w' ⟨rfl, rfl⟩))
    go_roundw
    case rel => exact ⟨k + 1, by omega, by go_num, e1, hbr, hsz, hcl⟩
    case measure => simp [intOf]; omega
   ·have e1 := Hid.mk' (checkWeb2 p1 (allTo_not (p := nodeNameOk) hlt (Bool.eq_false_iff.2 hx)))
    go_wp2_with (first | (go_at_call 129; refine (l1NameOk_calls _ _).mono ?_; rintro e w' ⟨rfl, rfl⟩))
    go_ret
    exact ⟨by rw [e1.out]; rfl, hbr⟩
  ·obtain rfl : k = x.Nodes.length := by omega
   have hA1 := Hid.mk' (allTo_end hA)
   obtain ⟨wo, hwo⟩ : ∃ wo : World, wo = wr := ⟨_, rfl⟩
   subst hwo
   go_wp2
   go_loopw [4] (fun i wr => ∃ k : Nat, (k = 0 ∨ k + 1 ≤ x.Nodes.length) ∧ i = .int .i64 (k + 1) ∧ ascTo x.Nodes k ∧ Below w.heap.size w wr ∧ w.heap.size < wr.heap.size ∧ wr.cell? ⟨w.heap.size, 0, none⟩ = some (.slice A0 x.Nodes.length c0)) (fun i _ => x.Nodes.length - (intOf i).toNat)
   case atStart => exact ⟨0, .inl rfl, rfl, ascTo_zero _, hbr, hsz, hcl⟩
   case round =>
    obtain ⟨k, hk, rfl, hA, hbr, hsz, hcl⟩ := hrel
    by_cases hlt : k + 1 < x.Nodes.length
    ·obtain ⟨a, c', v2, he, k0, k1, k2, h2, hr⟩ := Node.elem (h0.out.below hbr) (show k < x.Nodes.length by omega)
     cases he
     obtain ⟨a, c', u2, he, m0, m1, m2, g2, gr⟩ := Node.elem (h0.out.below hbr) hlt
     cases he
     clear h2 hr g2 gr k1 k2 m1 m2
     have i1 : (0 : Int) ≤ (k : Int) := by omega
     have i2 : (k : Int) < (x.Nodes.length : Int) := by omega
     have i3 : ((k : Int) + 1) < (x.Nodes.length : Int) := by omega
     by_cases hq : Op.bytesLess x.Nodes[k].Name.toList x.Nodes[k + 1].Name.toList = true
     ·have e1 := ascTo_succ hA hlt hq
      go_wp2
      go_quiet (fail)
      go_wp2
      go_roundw
      case rel => exact ⟨k + 1, .inr (by omega), by go_num, e1, below_dr hbr _, hsz, hcl⟩
      case measure => simp [intOf]; omega
     ·replace hq := Bool.eq_false_iff.2 hq
      have e1 := Hid.mk' (checkWeb3 p1 hA1.out (ascB_not hlt hq))
      go_wp2
      go_quiet (fail)
      go_wp2
      go_ret
      exact ⟨by rw [e1.out]; rfl, below_dr hbr _⟩
    ·have hA2 := Hid.mk' (ascTo_end hA (by omega))
     obtain ⟨wo, hwo⟩ : ∃ wo : World, wo = wr := ⟨_, rfl⟩
     subst hwo
     have i3 : ¬((k : Int) + 1) < (x.Nodes.length : Int) := by omega
     go_wp2
     go_loopw [5] (fun i wr => ∃ k : Nat, k ≤ x.Nodes.length ∧ i = .int .i64 k ∧ allTo nodeActOk x.Nodes k ∧ Below w.heap.size w wr ∧ w.heap.size < wr.heap.size ∧ wr.cell? ⟨w.heap.size, 0, none⟩ = some (.slice A0 x.Nodes.length c0)) (fun i _ => x.Nodes.length - (intOf i).toNat)
     case atStart => exact ⟨0, by omega, rfl, allTo_zero _ _, hbr, hsz, hcl⟩
     case round =>
      clear i3 hA hlt hk hsz hcl hbr
      obtain ⟨k, hk, rfl, hA, hbr, hsz, hcl⟩ := hrel
      by_cases hlt : k < x.Nodes.length
      ·obtain ⟨a, c', v2, he, k0, k1, k2, h2, hr⟩ := Node.elem (h0.out.below hbr) hlt
       cases he
       obtain ⟨B2, b2, rfl, _, _⟩ := rep_len h2
       replace h2 := Asd.mk h2
       clear hr
       have hsm := hz _ (List.getElem_mem hlt)
       by_cases hx : actionOk x.Nodes[k].Action = true
       ·have e1 := allTo_succ (p := nodeActOk) hA hlt hx
        go_wp2_with (first | (go_at_call 130; refine (sValidAction_calls x.Nodes[k].Action _ (Action.rmk _ h2.out) hsm).mono ?_; rintro e w2 ⟨rfl, hb2⟩))
        go_roundw
        case rel => exact ⟨k + 1, by omega, by go_num, e1, below_st hbr hb2, by have := hb2.size; omega, by rw [hb2.cell (by simp; omega)]; exact hcl⟩
        case measure => simp [intOf]; omega
       ·have e1 := Hid.mk' (checkWeb4 p1 hA1.out hA2.out (allTo_not (p := nodeActOk) hlt (Bool.eq_false_iff.2 hx)))
        go_wp2_with (first | (go_at_call 130; refine (sValidAction_calls x.Nodes[k].Action _ (Action.rmk _ h2.out) hsm).mono ?_; rintro e w2 ⟨rfl, hb2⟩))
        go_ret
        exact ⟨by rw [e1.out]; rfl, below_st hbr hb2⟩
      ·obtain rfl : k = x.Nodes.length := by omega
       have e1 := Hid.mk' (checkWeb0 p1 hA1.out hA2.out (allTo_end hA))
       go_wp2
       go_ret
       exact ⟨by rw [e1.out]; rfl, hbr⟩

end Go.Proofs.YtkpkfihaihoaeaaGreatDoor.M
end
section
set_option linter.unusedVariables false
set_option linter.unusedSimpArgs false
namespace Go.Proofs.YtkpkfihaihoaeaaGreatDoor.M
open Go.RowKit
theorem Step.lies {tC l0 : Nat} {W0 W : World} (x : Step) {v0 v2 : Value} (h0 : Lie l0 W0 (strsT 9 x.Asks) v0) (hb : Below W0.heap.size W0 W) (h2 : Lie W0.heap.size W (CasesT tC x.Cases) v2) (hl : l0 ≤ W0.heap.size) :
  Lies l0 W (Step.c tC x) [v0, .int .i64 x.On, v2, .int .i64 x.Else, .int .i64 x.Fall, .bool x.End, .bool x.Bad, .string x.Give] := by
 obtain ⟨F0, o0, n0, l0'⟩ := h0
 obtain ⟨F2, o2, n2, l2⟩ := h2
 have u0 := o0.lt
 exact ⟨F0 ++ F2, Step.omk x (o0.below hb) o2, nod2 n0 n2 (fun a ha hb => by have := u0 a ha; have := l2 a hb; omega), mem2 l0' (fun j hj => Nat.le_trans hl (l2 j hj))⟩
theorem Lie.empty (w : World) (e sz : Nat) : Lie w.heap.size (w.alloc (.cells #[] e)) (.l e sz 0 []) (.slice (some ⟨w.heap.size, 0, none⟩) 0 0) :=
 ⟨[w.heap.size], own_empty w e sz, by simp, by simp⟩
theorem Node.lies_of {tS tC lo : Nat} {w : World} {x : Node} {v2 : Value} (h : Lies lo w (Action.c tS tC x.Action) [.int .i64 x.Action.Cost, v2]) : Lies lo w (Node.c tS tC x) [.string x.Name, .int .i64 x.Action.Cost, v2] := by
 obtain ⟨F, o1, n1, l1⟩ := h
 obtain ⟨v2', F2, he, o2, rfl⟩ := Action.oopen o1
 simp at he
 subst he
 exact ⟨F, Node.omk x o2, n1, l1⟩
theorem rep_cells {w : World} {e sz n c : Nat} {A : Option Addr} {cells : List T} (h : rep w (.l e sz n cells) (.slice A n c)) : ∃ us, reps w cells us ∧ us.length = n * sz ∧ (0 < n → ∃ ad, A = some ad ∧ ∀ j u, us[j]? = some u → w.cell? (ad.add j) = some u) := by
 simp only [rep] at h
 obtain ⟨h0, h1, A', c', vs, he, hc, hr, hcl⟩ := h
 cases he
 exact ⟨vs, hr, by rw [reps_length hr, h0], hcl⟩
theorem rep_none {w : World} {e sz n c : Nat} {cells : List T} (h : rep w (.l e sz n cells) (.slice none n c)) : n = 0 := by
 simp only [rep] at h
 obtain ⟨h0, h1, A', c', vs, he, hc, hr, hcl⟩ := h
 cases he
 rcases Nat.eq_zero_or_pos n with h | h
 ·exact h
 ·obtain ⟨_, h, _⟩ := hcl h; cases h
theorem Lie.empty1 (w : World) (o : Obj) (e sz : Nat) : Lie (w.heap.size + 1) ((w.alloc o).alloc (.cells #[] e)) (.l e sz 0 []) (.slice (some ⟨w.heap.size + 1, 0, none⟩) 0 0) := by
 simpa using Lie.empty (w.alloc o) e sz
theorem Lie.emptyS (w : World) (p : Addr) (u : Value) (e sz : Nat) : Lie w.heap.size ((w.setCell p u).alloc (.cells #[] e)) (.l e sz 0 []) (.slice (some ⟨w.heap.size, 0, none⟩) 0 0) := by
 simpa using Lie.empty (w.setCell p u) e sz
theorem src_cells {wr w : World} {n : Nat} {A : Option Addr} {us : List Value} (h : 0 < n → ∃ ad, A = some ad ∧ ∀ j u, us[j]? = some u → wr.cell? (ad.add j) = some u) (hb : Below wr.heap.size wr w) : 0 < n → ∃ ad, A = some ad ∧ ∀ j u, us[j]? = some u → w.cell? (ad.add j) = some u :=
 fun hn => by obtain ⟨ad, h1, h2⟩ := h hn; exact ⟨ad, h1, fun j u hj => cell_below hb (h2 j u hj)⟩
theorem StepsT_snoc {a b : Nat} (xs : List Step) (x : Step) : StepsT a b (xs ++ [x]) = .l a 8 (xs.length + 1) (xs.flatMap (Step.c b) ++ Step.c b x) := by
 unfold StepsT tl; rw [List.length_append, List.flatMap_append]; simp
end Go.Proofs.YtkpkfihaihoaeaaGreatDoor.M
end
section
set_option linter.unusedVariables false
namespace Go.Proofs.YtkpkfihaihoaeaaGreatDoor.M
open Go
section
variable {Pg : Program} {ops : Array Oper} {Q : Exit → Act → World → Prop} {md : Region.Mode} {S : World → Prop} {last : Nat}
/-- as 'wpAny', and behind each operation but the one of number 'last' the world meets S -/
def wpG (Pg : Program) (md : Region.Mode) (ops : Array Oper) (Q : Exit → Act → World → Prop) (last : Nat) (S : World → Prop) : Nat → Array Bool → Act → World → Prop
 | 0, L, a, w => Region.ready md ops L = [] ∧ Q .normal a w
 | n + 1, L, a, w => (Region.ready md ops L = [] → Q .normal a w) ∧ ∀ j ∈ Region.ready md ops L, wpOp Pg ops Q j (fun b u => (j ≠ last → S u) ∧ wpG Pg md ops Q last S n (L.setIfInBounds j true) b u) a w
theorem wpG_any : ∀ (n : Nat) (L : Array Bool) (a : Act) (w : World), wpG Pg md ops Q last S n L a w → wpAny Pg md ops Q n L a w
 | 0, _, _, _, h => h
 | n + 1, L, a, w, h => ⟨h.1, fun j hj => wpOp_mono (fun b u k => wpG_any n _ b u k.2) (h.2 j hj)⟩
theorem not_ready {i j : Nat} {oj : Oper} {L : Array Bool} (hoj : ops[j]? = some oj) (hw : oj.after.any (fun e => Region.binds md e && e.on == i) = true) (hi : i ∈ Region.ready md ops L) : j ∉ Region.ready md ops L := by
 intro hj
 obtain ⟨_, o, ho, hall⟩ := mem_ready.1 hj
 rw [hoj] at ho
 cases ho
 obtain ⟨e, he, hb⟩ := Array.any_eq_true'.1 hw
 simp only [Bool.and_eq_true, beq_iff_eq] at hb
 have h1 := hall e he hb.1
 have h0 := (mem_ready.1 hi).1
 rw [hb.2] at h1
 rcases Nat.lt_or_ge i L.size with h | h
 ·simp [h] at h0 h1; rw [h0] at h1; cases h1
 ·simp [Array.getElem?_eq_none h] at h1
theorem wpG_first {i : Nat} {oi ol : Oper} {v : Value} (hi : ops[i]? = some oi) (hsel : ∀ (j : Nat) (o : Oper) cs b, ops[j]? = some o → o.op ≠ .select cs b)
  (hQ : ∀ c a w, Q (.panic c) (a.put oi.dst v) w → Q (.panic c) a w) (hol : ops[last]? = some ol) (hlast : ol.after.any (fun e => Region.binds md e && e.on == i) = true) :
  ∀ (n : Nat) (L : Array Bool) (a : Act) (w : World),
   (∀ j oj, ops[j]? = some oj → j ≠ i → L.getD j true = false → (∀ e ∈ oj.after, Region.binds md e = true → e.on ≠ i) → oi.apart ops oj = true) →
   i ∈ Region.ready md ops L → YieldsIf Pg ops S oi v a → S w → (i ≠ last → S w) →
   wpG Pg md ops Q last S n (L.setIfInBounds i true) (a.put oi.dst v) w → wpG Pg md ops Q last S (n + 1) L a w := by
 intro n
 induction n with
 | zero =>
  intro L a w _ hr hy hS hS' H
  refine ⟨fun h => (by rw [h] at hr; cases hr), fun j hj => ?_⟩
  by_cases e : j = i
  ·subst e; exact hy.wpOp hi hS ⟨hS', H⟩
  ·have := ready_mono hj e
   rw [H.1] at this; cases this
 | succ n ih =>
  intro L a w hap hr hy hS hS' H
  refine ⟨fun h => (by rw [h] at hr; cases hr), fun j hj => ?_⟩
  by_cases e : j = i
  ·subst e; exact hy.wpOp hi hS ⟨hS', H⟩
  ·have hjl : j ≠ last := fun e2 => not_ready hol hlast hr (e2 ▸ hj)
   obtain ⟨hun, oj, hoj, hall⟩ := mem_ready.1 hj
   have hno : ∀ x ∈ oj.after, Region.binds md x = true → x.on ≠ i := fun x hx hb heq => by
    refine not_ready hoj (i := i) ?_ hr hj
    exact Array.any_eq_true'.2 ⟨x, hx, by simp [hb, heq]⟩
   have h2 := wpOp_putIf hoj (hap j oj hoj e hun hno) (fun cs b => hsel i oi cs b hi) (fun cs b => hsel j oj cs b hoj) hQ hy (H.2 j (ready_mono hj e))
   refine wpOp_mono (fun b u k => ⟨k.2.1, ih (L.setIfInBounds j true) b u ?_ (ready_mono hr (Ne.symm e)) k.1 (k.2.1 hjl) (fun _ => k.2.1 hjl) ?_⟩) h2
   ·intro m om hm hmi hum hnm
    refine hap m om hm hmi ?_ hnm
    by_cases hjm : j = m
    ·subst hjm; exact hun
    ·rwa [getD_set_ne true hjm] at hum
   ·rw [Array.setIfInBounds_comm _ _ e]; exact k.2.2
theorem wpG_take {i : Nat} {oi ol : Oper} {v : Value} {n : Nat} {L : Array Bool} {a : Act} {w : World} (hi : ops[i]? = some oi) (hol : ops[last]? = some ol)
  (hlast : ol.after.any (fun e => Region.binds md e && e.on == i) = true) (hs : Region.noSelect ops = true) (hf : Region.free md ops L i = true) (hr : (Region.ready md ops L).contains i = true)
  (hQ : ∀ c a w, Q (.panic c) (a.put oi.dst v) w → Q (.panic c) a w) (hy : YieldsIf Pg ops S oi v a) (hS : S w)
  (h : wpG Pg md ops Q last S n (L.setIfInBounds i true) (a.put oi.dst v) w) : wpG Pg md ops Q last S (n + 1) L a w :=
 wpG_first hi (Region.noSelect_spec hs) hQ hol hlast n L a w (Region.free_spec hi hf) (by simpa using hr) hy hS (fun _ => hS) h
theorem wpG_done {L : Array Bool} {a : Act} {w : World} (hr : Region.ready md ops L = []) (h : Q .normal a w) : ∀ n, wpG Pg md ops Q last S n L a w
 | 0 => ⟨hr, h⟩
 | _ + 1 => ⟨fun _ => h, by rw [hr]; simp⟩
/-- one operation alone may come up -/
theorem wpG_one {i : Nat} {o : Oper} {n : Nat} {L : Array Bool} {a : Act} {w : World} (hr : Region.ready md ops L = [i]) (ho : ops[i]? = some o)
  (h : ∀ K : Act → World → Prop, Shut (∀ b u, (i ≠ last → S u) → wpG Pg md ops Q last S n (L.setIfInBounds i true) b u → K b u) → if Region.wanted o (yielded ops a.tmps) = true then Oper.wp Pg o a w K Q else K (a.put o.dst undef) w) :
  wpG Pg md ops Q last S (n + 1) L a w := by
 refine ⟨fun h0 => (by rw [hr] at h0; cases h0), fun j hj => ?_⟩
 rw [hr] at hj
 obtain rfl : j = i := by simpa using hj
 exact wpOp_step ho (fun K hK => h K (fun b u h1 h2 => hK b u ⟨h1, h2⟩))
/-- operation i is taken first: short forms -/
theorem wG (i : Nat) {oi ol : Oper} {v : Value} {n : Nat} {L : Array Bool} {a : Act} {w : World} (hi : ops[i]? = some oi) (hol : ops[last]? = some ol)
  (hc : (ol.after.any (fun e => Region.binds md e && e.on == i) && Region.noSelect ops && Region.free md ops L i && (Region.ready md ops L).contains i) = true)
  (hQ : ∀ c a w, Q (.panic c) (a.put oi.dst v) w → Q (.panic c) a w) (hg : Region.wanted oi (yielded ops a.tmps) = true) (hy : ∀ w, S w → (execOp a.eval oi).run Pg w = .ok (.value v) w) (hS : S w)
  (h : wpG Pg md ops Q last S n (L.setIfInBounds i true) (a.put oi.dst v) w) : wpG Pg md ops Q last S (n + 1) L a w := by
 simp only [Bool.and_eq_true] at hc
 exact wpG_take hi hol hc.1.1.1 hc.1.1.2 hc.1.2 hc.2 hQ (Or.inl ⟨hg, hy⟩) hS h
theorem wH (i : Nat) {oi : Oper} {v : Value} {n : Nat} {L : Array Bool} {a : Act} {w : World} (hi : ops[i]? = some oi)
  (hc : (Region.noSelect ops && Region.free md ops L i && (Region.ready md ops L).contains i) = true)
  (hQ : ∀ c a w, Q (.panic c) (a.put oi.dst v) w → Q (.panic c) a w) (hg : Region.wanted oi (yielded ops a.tmps) = true) (hy : ∀ w, S w → (execOp a.eval oi).run Pg w = .ok (.value v) w) (hS : S w)
  (h : wpAnyH Pg md ops Q S n (L.setIfInBounds i true) (a.put oi.dst v) w) : wpAnyH Pg md ops Q S (n + 1) L a w := by
 simp only [Bool.and_eq_true] at hc
 exact wpAnyH_take hi hc.1.1 hc.1.2 hc.2 hQ (Or.inl ⟨hg, hy⟩) hS h
theorem wN (i : Nat) {oi : Oper} {n : Nat} {L : Array Bool} {a : Act} {w : World} (hi : ops[i]? = some oi)
  (hc : (Region.noSelect ops && Region.free md ops L i && (Region.ready md ops L).contains i) = true)
  (hQ : ∀ c a w, Q (.panic c) (a.put oi.dst undef) w → Q (.panic c) a w) (hg : Region.wanted oi (yielded ops a.tmps) = false) (hS : S w)
  (h : wpAnyH Pg md ops Q S n (L.setIfInBounds i true) (a.put oi.dst undef) w) : wpAnyH Pg md ops Q S (n + 1) L a w := by
 simp only [Bool.and_eq_true] at hc
 exact wpAnyH_take hi hc.1.1 hc.1.2 hc.2 hQ (Or.inr ⟨hg, rfl⟩) hS h
theorem wp_region_G {id : Nat} {a : Act} {w : World} (hm : Pg.follows .mixedOrders = true) (h : wpG Pg .any ops Q last S ops.size (Array.replicate ops.size false) a w.drew) : (Code.region id ops true).wp Pg Q a w :=
 wp_region_any hm (wpG_any _ _ _ _ h)
end
end Go.Proofs.YtkpkfihaihoaeaaGreatDoor.M
end
section
set_option linter.unusedVariables false
set_option linter.unusedSimpArgs false
namespace Go.Proofs.YtkpkfihaihoaeaaGreatDoor.M
open Go.RowKit
def atR (l : List Run) (q : ByteArray) : Int := match l.findIdx? (rIs q) with
 | some i => i
 | none => -1
def noR (l : List Run) (q : ByteArray) (k : Nat) : Prop := ∀ (i : Nat) (h : i < l.length), i < k → rIs q l[i] = false
theorem noR_zero (l : List Run) (q : ByteArray) : noR l q 0 := fun _ _ h => absurd h (Nat.not_lt_zero _)
theorem noR_succ {l : List Run} {q : ByteArray} {k : Nat} (h : noR l q k) (hk : k < l.length) (hx : rIs q l[k] = false) : noR l q (k + 1) := by
 intro i hi hik
 rcases Nat.lt_succ_iff_lt_or_eq.1 hik with hik | rfl
 ·exact h i hi hik
 ·exact hx
theorem atR_yes {l : List Run} {q : ByteArray} {k : Nat} (h : noR l q k) (hk : k < l.length) (hx : rIs q l[k] = true) : atR l q = k := by
 unfold atR
 have : l.findIdx? (rIs q) = some k := List.findIdx?_eq_some_iff_getElem.2 ⟨hk, hx, fun j hj => by simp [h j (by omega) hj]⟩
 rw [this]
theorem atR_no {l : List Run} {q : ByteArray} (h : noR l q l.length) : atR l q = -1 := by
 unfold atR
 have : l.findIdx? (rIs q) = none := by
  rw [List.findIdx?_eq_none_iff]
  intro x hx
  obtain ⟨i, hi, rfl⟩ := List.getElem_of_mem hx
  exact h i hi hi
 rw [this]
theorem atR_some {l : List Run} {q : ByteArray} {r : Run} (h : runOf l q = some r) : ∃ i, ∃ hi : i < l.length, atR l q = i ∧ l[i] = r := by
 unfold runOf at h
 obtain ⟨hp, i, hi, he, hno⟩ := List.find?_eq_some_iff_getElem.1 h
 refine ⟨i, hi, atR_yes (fun j hj hji => by have := hno j hji; simpa using this) hi (by rw [he]; exact hp), he⟩
theorem atR_none {l : List Run} {q : ByteArray} (h : runOf l q = none) : atR l q = -1 := by
 refine atR_no (fun i hi _ => rIs_ne (runOf_none.1 h _ (List.getElem_mem hi)))
theorem atR_neg (l : List Run) (q : ByteArray) : atR l q < 0 ↔ runOf l q = none := by
 cases h : runOf l q with
 | none => simp [atR_none h]
 | some r => obtain ⟨i, hi, e, _⟩ := atR_some h; simp [e]
set_option maxRecDepth 100000 in
set_option maxHeartbeats 2000000 in
theorem find3_calls {t : Nat} (l : List Run) (q : ByteArray) (kb : Nat) (A B : Option Addr) (n c d : Nat) (w : World) (c0 : w.cell? ⟨kb, 0, none⟩ = some (.slice A n c)) (c1 : w.cell? ⟨kb, 1, none⟩ = some (.slice B l.length d)) (h : rep w (RunsT t l) (.slice B l.length d)) (hl : l.length ≤ 1000000) :
  Calls Tryz.prog 153 #[.pointer (some ⟨kb, 0, none⟩), .string q] w fun e w' => e = .returned (.int .i64 (atR l q)) ∧ w = w' := by
 replace h := Asd.mk h
 go_enter Tryz.func153, Tryz.ntmps153
 go_wp2
 go_loop [5] (fun i => ∃ k : Nat, k ≤ l.length ∧ i = .int .i64 k ∧ noR l q k) (fun i => l.length - (intOf i).toNat)
 case atStart => exact ⟨0, by omega, rfl, noR_zero _ _⟩
 case round =>
  obtain ⟨k, hk, rfl, hA⟩ := hrel
  by_cases hlt : k < l.length
  ·obtain ⟨a, c', v6, he, k0, _⟩ := Run.elem h.out hlt
   cases he
   by_cases hx : rIs q l[k] = true
   ·have e1 := Asd.mk (atR_yes hA hlt hx)
    replace hx : (l[k].Name.toList == q.toList) = true := hx
    go_wp2
    go_ret
    exact ⟨by rw [e1.out]; rfl, rfl⟩
   ·have hx := Bool.eq_false_iff.2 hx
    have e1 := noR_succ hA hlt hx
    replace hx : (l[k].Name.toList == q.toList) = false := hx
    go_wp2
    go_round
    case rel => exact ⟨k + 1, by omega, by go_num, e1⟩
    case measure => simp [intOf]; omega
  ·obtain rfl : k = l.length := by omega
   have e1 := Asd.mk (atR_no hA)
   go_wp2
   go_ret
   exact ⟨by rw [e1.out]; rfl, rfl⟩
end Go.Proofs.YtkpkfihaihoaeaaGreatDoor.M
end
