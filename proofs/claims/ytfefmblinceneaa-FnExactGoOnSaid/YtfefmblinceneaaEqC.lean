/- Contracts: the laws' own equalities. -/
import Derived.Test.YtfefmblinceneaaEqA
import Derived.StillTailTactics
set_option linter.unusedVariables false
set_option linter.unusedSimpArgs false
namespace Go.Proofs.Ytfefmblinceneaa.M
open Go.RowKit

set_option maxRecDepth 100000 in
set_option maxHeartbeats 2000000 in
theorem eqAnswer_calls (x y : Answer) (w : World) {vs us : List Value} (h : reps w (x.c) vs) (h' : reps w (y.c) us) :
    Calls Try.prog 38 #[.agg vs.toArray, .agg us.toArray] w fun e w' => e = .returned (.bool (eqB x y)) ∧ Below w.heap.size w w' := by
  obtain rfl := Answer.ropen h
  obtain rfl := Answer.ropen h'
  clear h h'
  have r_Fail := eqB_bool x.Fail y.Fail
  have s_Fail := eqB_bool2 x.Fail y.Fail
  have r_Text := eqB_str x.Text y.Text
  have s_Text := eqB_str2 x.Text y.Text
  rcases Bool.eq_false_or_eq_true (eqB x.Fail y.Fail) with q_Fail | q_Fail
  rotate_left
  · have e1 := Hid.mk' (eqB_no (fun e => eqB_ne q_Fail (congrArg Answer.Fail e)) : eqB x y = false)
    go_enter Try.func38, Try.ntmps38
    go_wp2
    go_ret
    exact ⟨by rw [e1.out]; rfl, by first | exact ((Below.refl _ _).alloc (Nat.le_refl _) _).alloc (by simp) _ | exact HB.out⟩
  rcases Bool.eq_false_or_eq_true (eqB x.Text y.Text) with q_Text | q_Text
  rotate_left
  · have e1 := Hid.mk' (eqB_no (fun e => eqB_ne q_Text (congrArg Answer.Text e)) : eqB x y = false)
    go_enter Try.func38, Try.ntmps38
    go_wp2
    go_ret
    exact ⟨by rw [e1.out]; rfl, by first | exact ((Below.refl _ _).alloc (Nat.le_refl _) _).alloc (by simp) _ | exact HB.out⟩
  have e1 := Hid.mk' (eqB_yes (show x = y by cases x; cases y; simp only [Answer.mk.injEq]; exact ⟨eqB_of q_Fail, eqB_of q_Text⟩) : eqB x y = true)
  go_enter Try.func38, Try.ntmps38
  go_wp2
  go_ret
  exact ⟨by rw [e1.out]; rfl, by first | exact ((Below.refl _ _).alloc (Nat.le_refl _) _).alloc (by simp) _ | exact HB.out⟩
set_option maxRecDepth 100000 in
set_option maxHeartbeats 2000000 in
theorem eqAnswerS_calls {tAnswer tAnswer' : Nat} (xs ys : List Answer) (v u : Value) (w : World) (h : rep w (AnswersT tAnswer xs) v) (h' : rep w (AnswersT tAnswer' ys) u) :
    Calls Try.prog 22 #[v, u] w fun e w' => e = .returned (.bool (eqB xs ys)) ∧ Below w.heap.size w w' := by
  obtain ⟨A, c, rfl, hc, hn⟩ := rep_len h
  obtain ⟨A', c', rfl, hc', hn'⟩ := rep_len h'
  replace h := Asd.mk h
  replace h' := Asd.mk h'
  by_cases hl : xs.length = ys.length
  rotate_left
  · have e1 := Hid.mk' (eqB_no (fun e => hl (congrArg List.length e)) : eqB xs ys = false)
    have hb : ((xs.length : Int) != (ys.length : Int)) = true := by simp; omega
    replace hl := Hid.mk' hl
    go_enter Try.func22, Try.ntmps22
    go_wp2
    go_ret
    exact ⟨by rw [e1.out]; rfl, Below.refl _ _⟩
  have hb : ((xs.length : Int) != (ys.length : Int)) = false := by simp; omega
  replace hl := Hid.mk' hl
  go_enter Try.func22, Try.ntmps22
  go_wp2
  go_loopw [5] (fun i wr => ∃ k : Nat, k ≤ xs.length ∧ i = .int .i64 k ∧ eqTo xs ys k ∧ Below w.heap.size w wr) (fun i _ => xs.length - (intOf i).toNat)
  case atStart => exact ⟨0, by omega, rfl, eqTo_zero _ _, Below.refl _ _⟩
  case round =>
    obtain ⟨k, hk, rfl, hA, hbr⟩ := hrel
    by_cases hlt : k < xs.length
    · have hlt' : k < ys.length := by have := hl.out; omega
      obtain ⟨a, c', he, k0, k1, hr⟩ := Answer.elem (h.out.below hbr) hlt
      cases he
      replace hr := Asd.mk hr
      obtain ⟨a, d', he, m0, m1, gr⟩ := Answer.elem (h'.out.below hbr) hlt'
      cases he
      replace gr := Asd.mk gr
      cases hq : eqB xs[k] ys[k] with
      | true =>
        have e1 := eqTo_succ hA hlt hlt' (eqB_of hq)
        go_wp2
        go_still_tail 8, (by kernel_rfl)
        change wpList _ _ _ _ _ wr.drew
        go_wp2_with (first | (go_at_call 38; refine (eqAnswer_calls xs[k] ys[k] _ (hr.out.below (by exact Below.drew (Below.refl _ _))) (gr.out.below (by exact Below.drew (Below.refl _ _)))).mono ?_; rintro e w1 ⟨rfl, hb1⟩))
        go_roundw
        case rel => exact ⟨k + 1, by omega, by go_num, e1, below_st hbr.drew hb1⟩
        case measure => simp [intOf]; omega
      | false =>
        have e1 := Hid.mk' (eqB_no (ne_at hlt hlt' (eqB_ne hq)) : eqB xs ys = false)
        go_wp2
        go_still_tail 8, (by kernel_rfl)
        change wpList _ _ _ _ _ wr.drew
        go_wp2_with (first | (go_at_call 38; refine (eqAnswer_calls xs[k] ys[k] _ (hr.out.below (by exact Below.drew (Below.refl _ _))) (gr.out.below (by exact Below.drew (Below.refl _ _)))).mono ?_; rintro e w1 ⟨rfl, hb1⟩))
        go_ret
        exact ⟨by rw [e1.out]; rfl, below_st hbr.drew hb1⟩
    · obtain rfl : k = xs.length := by omega
      have e1 := Hid.mk' (eqB_yes (eqTo_end hl.out hA))
      go_wp2
      go_ret
      exact ⟨by rw [e1.out]; rfl, hbr⟩
set_option maxRecDepth 100000 in
set_option maxHeartbeats 2000000 in
theorem eqGone_calls (x y : Gone) (w : World) {vs us : List Value} (h : reps w (x.c) vs) (h' : reps w (y.c) us) :
    Calls Try.prog 21 #[.agg vs.toArray, .agg us.toArray] w fun e w' => e = .returned (.bool (eqB x y)) ∧ Below w.heap.size w w' := by
  obtain rfl := Gone.ropen h
  obtain rfl := Gone.ropen h'
  clear h h'
  have r_Code := eqB_int x.Code y.Code
  have r_Over := eqB_bool x.Over y.Over
  have s_Over := eqB_bool2 x.Over y.Over
  have r_At := eqB_int x.At y.At
  have r_Text := eqB_str x.Text y.Text
  have s_Text := eqB_str2 x.Text y.Text
  rcases Bool.eq_false_or_eq_true (eqB x.Code y.Code) with q_Code | q_Code
  rotate_left
  · have e1 := Hid.mk' (eqB_no (fun e => eqB_ne q_Code (congrArg Gone.Code e)) : eqB x y = false)
    go_enter Try.func21, Try.ntmps21
    go_wp2
    go_ret
    exact ⟨by rw [e1.out]; rfl, by first | exact ((Below.refl _ _).alloc (Nat.le_refl _) _).alloc (by simp) _ | exact HB.out⟩
  rcases Bool.eq_false_or_eq_true (eqB x.Over y.Over) with q_Over | q_Over
  rotate_left
  · have e1 := Hid.mk' (eqB_no (fun e => eqB_ne q_Over (congrArg Gone.Over e)) : eqB x y = false)
    go_enter Try.func21, Try.ntmps21
    go_wp2
    go_ret
    exact ⟨by rw [e1.out]; rfl, by first | exact ((Below.refl _ _).alloc (Nat.le_refl _) _).alloc (by simp) _ | exact HB.out⟩
  rcases Bool.eq_false_or_eq_true (eqB x.At y.At) with q_At | q_At
  rotate_left
  · have e1 := Hid.mk' (eqB_no (fun e => eqB_ne q_At (congrArg Gone.At e)) : eqB x y = false)
    go_enter Try.func21, Try.ntmps21
    go_wp2
    go_ret
    exact ⟨by rw [e1.out]; rfl, by first | exact ((Below.refl _ _).alloc (Nat.le_refl _) _).alloc (by simp) _ | exact HB.out⟩
  rcases Bool.eq_false_or_eq_true (eqB x.Text y.Text) with q_Text | q_Text
  rotate_left
  · have e1 := Hid.mk' (eqB_no (fun e => eqB_ne q_Text (congrArg Gone.Text e)) : eqB x y = false)
    go_enter Try.func21, Try.ntmps21
    go_wp2
    go_ret
    exact ⟨by rw [e1.out]; rfl, by first | exact ((Below.refl _ _).alloc (Nat.le_refl _) _).alloc (by simp) _ | exact HB.out⟩
  have e1 := Hid.mk' (eqB_yes (show x = y by cases x; cases y; simp only [Gone.mk.injEq]; exact ⟨eqB_of q_Code, eqB_of q_Over, eqB_of q_At, eqB_of q_Text⟩) : eqB x y = true)
  go_enter Try.func21, Try.ntmps21
  go_wp2
  go_ret
  exact ⟨by rw [e1.out]; rfl, by first | exact ((Below.refl _ _).alloc (Nat.le_refl _) _).alloc (by simp) _ | exact HB.out⟩
end Go.Proofs.Ytfefmblinceneaa.M
