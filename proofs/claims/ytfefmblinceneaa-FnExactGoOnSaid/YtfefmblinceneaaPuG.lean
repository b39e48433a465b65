/- Plain functions: GoOn. -/
import Derived.Test.YtfefmblinceneaaPure
namespace Go.Proofs.Ytfefmblinceneaa.M
open Go.RowKit
def belowT (q : ByteArray) : ByteArray := ⟨#[98, 101, 108, 111, 119, 32]⟩ ++ q
def failed (x : Answer) : Bool := x.Fail
def failIx (xs : List Answer) : Option Nat := xs.findIdx? failed
def caseIs (t : ByteArray) (c : Case) : Bool := c.Text.toList == t.toList
def caseOf (cs : List Case) (t : ByteArray) : Option Case := cs.find? (caseIs t)
def onText (s : Step) (xs : List Answer) : ByteArray := (xs.getD s.On.toNat zAnswer).Text
def gotoS (s : Step) (xs : List Answer) : Int := if xs = [] then s.Else else match caseOf s.Cases (onText s xs) with | some c => c.Goto | none => s.Else
def followS (s : Step) (xs : List Answer) : Gone :=
  match failIx xs with
  | some i => if s.Fall < 0 then ⟨0, true, 0, belowT (s.Asks.getD i ⟨#[]⟩)⟩ else ⟨0, false, s.Fall, ⟨#[]⟩⟩
  | none => ⟨0, false, gotoS s xs, ⟨#[]⟩⟩
def badGone : Gone := ⟨1, false, 0, ⟨#[]⟩⟩
def textOk (x : Answer) : Bool := decide (x.Text.size ≤ 200)
def goOnPre (a : Action) (at_ : Int) (xs : List Answer) : Bool := actionOk a && inB at_ 0 (a.Steps.length - 1) && !(a.Steps.getD at_.toNat zStep).End && decide (xs.length = (a.Steps.getD at_.toNat zStep).Asks.length)
def goOn (a : Action) (at_ : Int) (xs : List Answer) : Gone :=
  if goOnPre a at_ xs = false then badGone else if xs.all textOk = false then badGone else followS (a.Steps.getD at_.toNat zStep) xs
/-- none failed before a place -/
def noFail (xs : List Answer) (k : Nat) : Prop := ∀ (i : Nat) (h : i < xs.length), i < k → xs[i].Fail = false
theorem noFail_zero (xs : List Answer) : noFail xs 0 := fun i _ h => absurd h (Nat.not_lt_zero _)
theorem noFail_succ {xs : List Answer} {k : Nat} (h : noFail xs k) (hk : k < xs.length) (hx : xs[k].Fail = false) : noFail xs (k + 1) := by
  intro i hi hik
  rcases Nat.lt_succ_iff_lt_or_eq.1 hik with hik | rfl
  · exact h i hi hik
  · exact hx
theorem failIx_at {xs : List Answer} {k : Nat} (h : noFail xs k) (hk : k < xs.length) (hx : xs[k].Fail = true) : failIx xs = some k := by
  unfold failIx
  rw [List.findIdx?_eq_some_iff_getElem]
  exact ⟨hk, hx, fun j hj => by have := h j (by omega) hj; simp [failed, this]⟩
theorem failIx_none {xs : List Answer} (h : noFail xs xs.length) : failIx xs = none := by
  unfold failIx
  rw [List.findIdx?_eq_none_iff]
  intro x hx
  obtain ⟨i, hi, rfl⟩ := List.getElem_of_mem hx
  exact h i hi hi
def noCase (t : ByteArray) (cs : List Case) (k : Nat) : Prop := ∀ (i : Nat) (h : i < cs.length), i < k → caseIs t cs[i] = false
theorem noCase_zero (t : ByteArray) (cs : List Case) : noCase t cs 0 := fun i _ h => absurd h (Nat.not_lt_zero _)
theorem noCase_succ {t : ByteArray} {cs : List Case} {k : Nat} (h : noCase t cs k) (hk : k < cs.length) (hx : caseIs t cs[k] = false) : noCase t cs (k + 1) := by
  intro i hi hik
  rcases Nat.lt_succ_iff_lt_or_eq.1 hik with hik | rfl
  · exact h i hi hik
  · exact hx
theorem caseOf_at {t : ByteArray} {cs : List Case} {k : Nat} (h : noCase t cs k) (hk : k < cs.length) (hx : caseIs t cs[k] = true) : caseOf cs t = some cs[k] := by
  unfold caseOf
  rw [List.find?_eq_some_iff_getElem]
  exact ⟨hx, k, hk, rfl, fun j hj => by have := h j (by omega) hj; simp [this]⟩
theorem caseOf_none {t : ByteArray} {cs : List Case} (h : noCase t cs cs.length) : caseOf cs t = none := by
  unfold caseOf
  rw [List.find?_eq_none]
  intro x hx
  obtain ⟨i, hi, rfl⟩ := List.getElem_of_mem hx
  simp [h i hi hi]
theorem follow_fall {s : Step} {xs : List Answer} {k : Nat} (h : noFail xs k) (hk : k < xs.length) (hx : xs[k].Fail = true) (hF : ¬s.Fall < 0) : followS s xs = ⟨0, false, s.Fall, ⟨#[]⟩⟩ := by
  unfold followS; rw [failIx_at h hk hx]; simp [hF]
theorem follow_over {s : Step} {xs : List Answer} {k : Nat} (h : noFail xs k) (hk : k < xs.length) (hx : xs[k].Fail = true) (hF : s.Fall < 0) (hl : k < s.Asks.length) : followS s xs = ⟨0, true, 0, belowT s.Asks[k]⟩ := by
  unfold followS; rw [failIx_at h hk hx]; simp [hF, List.getD_eq_getElem?_getD, hl]
theorem follow_else0 {s : Step} {xs : List Answer} (h : noFail xs xs.length) (hx : xs.length = 0) : followS s xs = ⟨0, false, s.Else, ⟨#[]⟩⟩ := by
  unfold followS; rw [failIx_none h]; simp [gotoS, List.eq_nil_of_length_eq_zero hx]
theorem follow_else {s : Step} {xs : List Answer} (h : noFail xs xs.length) (hc : noCase (onText s xs) s.Cases s.Cases.length) : followS s xs = ⟨0, false, s.Else, ⟨#[]⟩⟩ := by
  unfold followS; rw [failIx_none h]; unfold gotoS; rw [caseOf_none hc]; simp
theorem follow_goto {s : Step} {xs : List Answer} {k : Nat} (h : noFail xs xs.length) (hx : 0 < xs.length) (hc : noCase (onText s xs) s.Cases k) (hk : k < s.Cases.length) (hq : caseIs (onText s xs) s.Cases[k] = true) : followS s xs = ⟨0, false, s.Cases[k].Goto, ⟨#[]⟩⟩ := by
  have hne : xs ≠ [] := List.length_pos_iff.1 hx
  unfold followS; rw [failIx_none h]; unfold gotoS; rw [caseOf_at hc hk hq]; simp [hne]
theorem goOn_bad {a : Action} {at_ : Int} {xs : List Answer} (h : actionOk a = false) : goOn a at_ xs = badGone := by simp [goOn, goOnPre, h]
theorem goOn_out {a : Action} {at_ : Int} {xs : List Answer} (h : inB at_ 0 (a.Steps.length - 1) = false) : goOn a at_ xs = badGone := by simp [goOn, goOnPre, h]
theorem goOn_end {a : Action} {n : Nat} {xs : List Answer} (hn : n < a.Steps.length) (h : a.Steps[n].End = true) : goOn a n xs = badGone := by
  simp [goOn, goOnPre, List.getD_eq_getElem?_getD, hn, h]
theorem goOn_len {a : Action} {n : Nat} {xs : List Answer} (hn : n < a.Steps.length) (h : ¬xs.length = a.Steps[n].Asks.length) : goOn a n xs = badGone := by
  simp [goOn, goOnPre, List.getD_eq_getElem?_getD, hn, h]
theorem goOn_text {a : Action} {n : Nat} {xs : List Answer} (h : xs.all textOk = false) : goOn a n xs = badGone := by
  unfold goOn; rw [h]; simp
theorem goOn_yes {a : Action} {n : Nat} {xs : List Answer} (hn : n < a.Steps.length) (h1 : actionOk a = true) (h2 : inB n 0 (a.Steps.length - 1) = true) (h3 : a.Steps[n].End = false) (h4 : xs.length = a.Steps[n].Asks.length) (h5 : xs.all textOk = true) : goOn a n xs = followS a.Steps[n] xs := by
  unfold goOn; rw [h5]; simp [goOnPre, List.getD_eq_getElem?_getD, hn, h1, h2, h3, h4]
theorem nameOk_size {q : ByteArray} (h : nameOk q = true) : q.size ≤ 20 := by
  simp [nameOk, inB] at h; omega
/-- what a good action's step holds -/
theorem step_facts {a : Action} (h : actionOk a = true) {n : Nat} (hn : n < a.Steps.length) (hE : a.Steps[n].End = false) :
    preOk a.Steps[n] a.Steps.length = true ∧ namesOk a.Steps[n].Asks = true ∧ onOk a.Steps[n] = true := by
  simp only [actionOk, Bool.and_eq_true, List.all_eq_true] at h
  have h := h.2 _ (List.getElem_mem hn)
  simp only [stepOkN, stepOk, hE] at h
  simp only [Bool.false_eq_true, if_false, Bool.and_eq_true] at h
  exact ⟨h.1.1.1, h.1.1.2, h.1.2⟩
theorem step_asks {a : Action} (h : actionOk a = true) {n : Nat} (hn : n < a.Steps.length) (hE : a.Steps[n].End = false) : ∀ q ∈ a.Steps[n].Asks, q.size ≤ 1000000 := by
  intro q hq
  have h2 := (step_facts h hn hE).2.1
  simp only [namesOk, Bool.and_eq_true, List.all_eq_true] at h2
  have := nameOk_size (h2.1 q hq)
  omega
theorem step_on {a : Action} (h : actionOk a = true) {n : Nat} (hn : n < a.Steps.length) (hE : a.Steps[n].End = false) {l : Nat} (hl : l = a.Steps[n].Asks.length) : 0 < l → 0 ≤ a.Steps[n].On ∧ a.Steps[n].On < l := by
  intro h0
  have h3 := (step_facts h hn hE).2.2
  have hne : a.Steps[n].Asks.isEmpty = false := by
    cases hq : a.Steps[n].Asks with
    | nil => rw [hq] at hl; simp at hl; omega
    | cons _ _ => rfl
  simp [onOk, hne, inB] at h3
  omega
theorem step_fall {a : Action} (h : actionOk a = true) {n : Nat} (hn : n < a.Steps.length) (hE : a.Steps[n].End = false) : -1 ≤ a.Steps[n].Fall := by
  have h1 := (preOk_iff (step_facts h hn hE).1).2.2.2.2.2
  simp [inB] at h1
  omega
theorem textOk_no {xs : List Answer} {k : Nat} (hk : k < xs.length) (h : ¬xs[k].Text.size ≤ 200) : xs.all textOk = false := allTo_not hk (by simp [textOk]; omega)
def goneV (g : Gone) : Value := .agg #[.int .i64 g.Code, .bool g.Over, .int .i64 g.At, .string g.Text]
end Go.Proofs.Ytfefmblinceneaa.M
