/- Contracts: the laws' own equalities. -/
import Derived.Test.YtmjfkjdfmpileaaPure
import Derived.Test.YtmjfkjdfmpileaaProg
import Derived.StillTailTactics
set_option linter.unusedVariables false
set_option linter.unusedSimpArgs false
namespace Go.Proofs.Ytmjfkjdfmpileaa.M
open Go.RowKit

def eqB {α : Type} [DecidableEq α] (a b : α) : Bool := decide (a = b)
theorem eqB_of {α : Type} [DecidableEq α] {a b : α} (h : eqB a b = true) : a = b := of_decide_eq_true h
theorem eqB_ne {α : Type} [DecidableEq α] {a b : α} (h : eqB a b = false) : a ≠ b := of_decide_eq_false h
theorem eqB_yes {α : Type} [DecidableEq α] {a b : α} (h : a = b) : eqB a b = true := decide_eq_true h
theorem eqB_no {α : Type} [DecidableEq α] {a b : α} (h : a ≠ b) : eqB a b = false := decide_eq_false h
theorem eqB_int (a b : Int) : (a != b) = !eqB a b := by unfold eqB; by_cases h : a = b <;> simp [h]
theorem eqB_bool (a b : Bool) : (a != b) = !eqB a b := by cases a <;> cases b <;> rfl
theorem eqB_bool2 (a b : Bool) : (a == b) = eqB a b := by cases a <;> cases b <;> rfl
theorem eqB_str (a b : ByteArray) : (a.toList == b.toList) = eqB a b := by
  unfold eqB; rw [Bool.eq_iff_iff]; simp only [decide_eq_true_eq]; exact ba_eq a b
theorem eqB_str2 (a b : ByteArray) : (a.toList != b.toList) = !eqB a b := by show (!(a.toList == b.toList)) = _; rw [eqB_str]
def eqTo {α : Type} (xs ys : List α) (k : Nat) : Prop := xs.take k = ys.take k
theorem eqTo_zero {α : Type} (xs ys : List α) : eqTo xs ys 0 := by simp [eqTo]
theorem eqTo_succ {α : Type} {xs ys : List α} {k : Nat} (h : eqTo xs ys k) (h1 : k < xs.length) (h2 : k < ys.length) (e : xs[k] = ys[k]) : eqTo xs ys (k + 1) := by
  unfold eqTo at *; rw [List.take_succ_eq_append_getElem h1, List.take_succ_eq_append_getElem h2, h, e]
theorem eqTo_end {α : Type} {xs ys : List α} (hl : xs.length = ys.length) (h : eqTo xs ys xs.length) : xs = ys := by
  unfold eqTo at h; rwa [List.take_length, hl, List.take_length] at h
theorem ne_at {α : Type} {xs ys : List α} {k : Nat} (h1 : k < xs.length) (h2 : k < ys.length) (e : xs[k] ≠ ys[k]) : xs ≠ ys := by
  rintro rfl; exact e rfl
set_option maxHeartbeats 1000000 in
theorem eqStringS_calls {t t' : Nat} (xs ys : List ByteArray) (v u : Value) (w : World) (h : rep w (strsT t xs) v) (h' : rep w (strsT t' ys) u) :
    Calls Try.prog 28 #[v, u] w fun e w' => e = .returned (.bool (eqB xs ys)) ∧ Below w.heap.size w w' := by
  obtain ⟨A, c, rfl, hc, hn⟩ := rep_len h
  obtain ⟨A', c', rfl, hc', hn'⟩ := rep_len h'
  replace h := Asd.mk h
  replace h' := Asd.mk h'
  by_cases hl : xs.length = ys.length
  rotate_left
  · have e1 := Hid.mk' (eqB_no (fun e => hl (congrArg List.length e)) : eqB xs ys = false)
    have hb : ((xs.length : Int) != (ys.length : Int)) = true := by simp; omega
    replace hl := Hid.mk' hl
    go_enter Try.func28, Try.ntmps28
    go_wp2
    go_ret
    exact ⟨by rw [e1.out]; rfl, Below.refl _ _⟩
  have hb : ((xs.length : Int) != (ys.length : Int)) = false := by simp; omega
  replace hl := Hid.mk' hl
  go_enter Try.func28, Try.ntmps28
  go_wp2
  go_loopw [5] (fun i wr => ∃ k : Nat, k ≤ xs.length ∧ i = .int .i64 k ∧ eqTo xs ys k ∧ Below w.heap.size w wr) (fun i _ => xs.length - (intOf i).toNat)
  case atStart => exact ⟨0, by omega, rfl, eqTo_zero _ _, Below.refl _ _⟩
  case round =>
    obtain ⟨k, hk, rfl, hA, hbr⟩ := hrel
    by_cases hlt : k < xs.length
    · have hlt' : k < ys.length := by have := hl.out; omega
      obtain ⟨a, d, he, hcell⟩ := str_elem (h.out.below hbr) hlt
      cases he
      obtain ⟨a, d, he, hcell'⟩ := str_elem (h'.out.below hbr) hlt'
      cases he
      have r1 := eqB_str xs[k] ys[k]
      have r2 := eqB_str2 xs[k] ys[k]
      cases hq : eqB xs[k] ys[k] with
      | true =>
        have e1 := eqTo_succ hA hlt hlt' (eqB_of hq)
        go_wp2
        go_quiet (fail)
        go_wp2
        go_roundw
        case rel => exact ⟨k + 1, by omega, by go_num, e1, below_dr hbr _⟩
        case measure => simp [intOf]; omega
      | false =>
        have e1 := Hid.mk' (eqB_no (ne_at hlt hlt' (eqB_ne hq)) : eqB xs ys = false)
        go_wp2
        go_quiet (fail)
        go_wp2
        go_ret
        exact ⟨by rw [e1.out]; rfl, below_dr hbr _⟩
    · obtain rfl : k = xs.length := by omega
      have e1 := Hid.mk' (eqB_yes (eqTo_end hl.out hA))
      go_wp2
      go_ret
      exact ⟨by rw [e1.out]; rfl, hbr⟩
end Go.Proofs.Ytmjfkjdfmpileaa.M
