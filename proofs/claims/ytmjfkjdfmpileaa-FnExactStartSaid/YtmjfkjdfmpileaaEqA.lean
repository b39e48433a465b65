/- Contracts: the laws' own equalities. -/
import Derived.Test.YtmjfkjdfmpileaaEqS
import Derived.Test.YtmjfkjdfmpileaaAct
import Derived.StillTailTactics
set_option linter.unusedVariables false
set_option linter.unusedSimpArgs false
namespace Go.Proofs.Ytmjfkjdfmpileaa.M
open Go.RowKit

set_option maxRecDepth 100000 in
set_option maxHeartbeats 2000000 in
theorem eqCase_calls (x y : Case) (w : World) {vs us : List Value} (h : reps w (x.c) vs) (h' : reps w (y.c) us) :
    Calls Try.prog 114 #[.agg vs.toArray, .agg us.toArray] w fun e w' => e = .returned (.bool (eqB x y)) ∧ Below w.heap.size w w' := by
  obtain rfl := Case.ropen h
  obtain rfl := Case.ropen h'
  clear h h'
  have r_Text := eqB_str x.Text y.Text
  have s_Text := eqB_str2 x.Text y.Text
  have r_Goto := eqB_int x.Goto y.Goto
  rcases Bool.eq_false_or_eq_true (eqB x.Text y.Text) with q_Text | q_Text
  rotate_left
  · have e1 := Hid.mk' (eqB_no (fun e => eqB_ne q_Text (congrArg Case.Text e)) : eqB x y = false)
    go_enter Try.func114, Try.ntmps114
    go_wp2
    go_ret
    exact ⟨by rw [e1.out]; rfl, by first | exact ((Below.refl _ _).alloc (Nat.le_refl _) _).alloc (by simp) _ | exact HB.out⟩
  rcases Bool.eq_false_or_eq_true (eqB x.Goto y.Goto) with q_Goto | q_Goto
  rotate_left
  · have e1 := Hid.mk' (eqB_no (fun e => eqB_ne q_Goto (congrArg Case.Goto e)) : eqB x y = false)
    go_enter Try.func114, Try.ntmps114
    go_wp2
    go_ret
    exact ⟨by rw [e1.out]; rfl, by first | exact ((Below.refl _ _).alloc (Nat.le_refl _) _).alloc (by simp) _ | exact HB.out⟩
  have e1 := Hid.mk' (eqB_yes (show x = y by cases x; cases y; simp only [Case.mk.injEq]; exact ⟨eqB_of q_Text, eqB_of q_Goto⟩) : eqB x y = true)
  go_enter Try.func114, Try.ntmps114
  go_wp2
  go_ret
  exact ⟨by rw [e1.out]; rfl, by first | exact ((Below.refl _ _).alloc (Nat.le_refl _) _).alloc (by simp) _ | exact HB.out⟩
set_option maxRecDepth 100000 in
set_option maxHeartbeats 2000000 in
theorem eqCaseS_calls {tCase tCase' : Nat} (xs ys : List Case) (v u : Value) (w : World) (h : rep w (CasesT tCase xs) v) (h' : rep w (CasesT tCase' ys) u) :
    Calls Try.prog 108 #[v, u] w fun e w' => e = .returned (.bool (eqB xs ys)) ∧ Below w.heap.size w w' := by
  obtain ⟨A, c, rfl, hc, hn⟩ := rep_len h
  obtain ⟨A', c', rfl, hc', hn'⟩ := rep_len h'
  replace h := Asd.mk h
  replace h' := Asd.mk h'
  by_cases hl : xs.length = ys.length
  rotate_left
  · have e1 := Hid.mk' (eqB_no (fun e => hl (congrArg List.length e)) : eqB xs ys = false)
    have hb : ((xs.length : Int) != (ys.length : Int)) = true := by simp; omega
    replace hl := Hid.mk' hl
    go_enter Try.func108, Try.ntmps108
    go_wp2
    go_ret
    exact ⟨by rw [e1.out]; rfl, Below.refl _ _⟩
  have hb : ((xs.length : Int) != (ys.length : Int)) = false := by simp; omega
  replace hl := Hid.mk' hl
  go_enter Try.func108, Try.ntmps108
  go_wp2
  go_loopw [5] (fun i wr => ∃ k : Nat, k ≤ xs.length ∧ i = .int .i64 k ∧ eqTo xs ys k ∧ Below w.heap.size w wr) (fun i _ => xs.length - (intOf i).toNat)
  case atStart => exact ⟨0, by omega, rfl, eqTo_zero _ _, Below.refl _ _⟩
  case round =>
    obtain ⟨k, hk, rfl, hA, hbr⟩ := hrel
    by_cases hlt : k < xs.length
    · have hlt' : k < ys.length := by have := hl.out; omega
      obtain ⟨a, c', he, k0, k1, hr⟩ := Case.elem (h.out.below hbr) hlt
      cases he
      replace hr := Asd.mk hr
      obtain ⟨a, d', he, m0, m1, gr⟩ := Case.elem (h'.out.below hbr) hlt'
      cases he
      replace gr := Asd.mk gr
      cases hq : eqB xs[k] ys[k] with
      | true =>
        have e1 := eqTo_succ hA hlt hlt' (eqB_of hq)
        go_wp2
        go_still_tail 8, (by kernel_rfl)
        change wpList _ _ _ _ _ wr.drew
        go_wp2_with (first | (go_at_call 114; refine (eqCase_calls xs[k] ys[k] _ (hr.out.below (by exact Below.drew (Below.refl _ _))) (gr.out.below (by exact Below.drew (Below.refl _ _)))).mono ?_; rintro e w1 ⟨rfl, hb1⟩))
        go_roundw
        case rel => exact ⟨k + 1, by omega, by go_num, e1, below_st hbr.drew hb1⟩
        case measure => simp [intOf]; omega
      | false =>
        have e1 := Hid.mk' (eqB_no (ne_at hlt hlt' (eqB_ne hq)) : eqB xs ys = false)
        go_wp2
        go_still_tail 8, (by kernel_rfl)
        change wpList _ _ _ _ _ wr.drew
        go_wp2_with (first | (go_at_call 114; refine (eqCase_calls xs[k] ys[k] _ (hr.out.below (by exact Below.drew (Below.refl _ _))) (gr.out.below (by exact Below.drew (Below.refl _ _)))).mono ?_; rintro e w1 ⟨rfl, hb1⟩))
        go_ret
        exact ⟨by rw [e1.out]; rfl, below_st hbr.drew hb1⟩
    · obtain rfl : k = xs.length := by omega
      have e1 := Hid.mk' (eqB_yes (eqTo_end hl.out hA))
      go_wp2
      go_ret
      exact ⟨by rw [e1.out]; rfl, hbr⟩
set_option maxRecDepth 100000 in
set_option maxHeartbeats 2000000 in
theorem eqStep_calls {tCase tCase' : Nat} (x y : Step) (w : World) {vs us : List Value} (h : reps w (x.c tCase) vs) (h' : reps w (y.c tCase') us) :
    Calls Try.prog 101 #[.agg vs.toArray, .agg us.toArray] w fun e w' => e = .returned (.bool (eqB x y)) ∧ Below w.heap.size w w' := by
  obtain ⟨v0, v2, rfl, h0, h2⟩ := Step.ropen h
  obtain ⟨u0, u2, rfl, g0, g2⟩ := Step.ropen h'
  obtain ⟨A0, c0, rfl, _, _⟩ := rep_len h0
  replace h0 := Asd.mk h0
  obtain ⟨B0, b0, rfl, _, _⟩ := rep_len g0
  replace g0 := Asd.mk g0
  obtain ⟨A2, c2, rfl, _, _⟩ := rep_len h2
  replace h2 := Asd.mk h2
  obtain ⟨B2, b2, rfl, _, _⟩ := rep_len g2
  replace g2 := Asd.mk g2
  clear h h'
  have r_On := eqB_int x.On y.On
  have r_Else := eqB_int x.Else y.Else
  have r_Fall := eqB_int x.Fall y.Fall
  have r_End := eqB_bool x.End y.End
  have s_End := eqB_bool2 x.End y.End
  have r_Bad := eqB_bool x.Bad y.Bad
  have s_Bad := eqB_bool2 x.Bad y.Bad
  have r_Give := eqB_str x.Give y.Give
  have s_Give := eqB_str2 x.Give y.Give
  rcases Bool.eq_false_or_eq_true (eqB x.Asks y.Asks) with q_Asks | q_Asks
  rotate_left
  · have e1 := Hid.mk' (eqB_no (fun e => eqB_ne q_Asks (congrArg Step.Asks e)) : eqB x y = false)
    go_enter Try.func101, Try.ntmps101
    go_wp2_with (first | (go_at_call 28; refine (eqStringS_calls x.Asks y.Asks _ _ _ (h0.out.below (by first | exact ((Below.refl _ _).alloc (Nat.le_refl _) _).alloc (by simp) _ | exact HB.out)) (g0.out.below (by first | exact ((Below.refl _ _).alloc (Nat.le_refl _) _).alloc (by simp) _ | exact HB.out))).mono ?_; rintro e w1 ⟨rfl, hb1⟩; obtain ⟨hcx, hfx⟩ := bcell hb1; have hz1 : w.heap.size + 1 < w1.heap.size := (by have := hb1.size; (try simp at this); omega); have hz0 : w.heap.size < w1.heap.size := (by omega); have HB := Asd.mk (show Below w.heap.size w w1 from by first | exact below_st (((Below.refl _ _).alloc (Nat.le_refl _) _).alloc (by simp) _) hb1 | exact below_st HB.out hb1); clear hb1) | (go_at_call 108; refine (eqCaseS_calls x.Cases y.Cases _ _ _ (h2.out.below (by first | exact ((Below.refl _ _).alloc (Nat.le_refl _) _).alloc (by simp) _ | exact HB.out)) (g2.out.below (by first | exact ((Below.refl _ _).alloc (Nat.le_refl _) _).alloc (by simp) _ | exact HB.out))).mono ?_; rintro e w1 ⟨rfl, hb1⟩; obtain ⟨hcx, hfx⟩ := bcell hb1; have hz1 : w.heap.size + 1 < w1.heap.size := (by have := hb1.size; (try simp at this); omega); have hz0 : w.heap.size < w1.heap.size := (by omega); have HB := Asd.mk (show Below w.heap.size w w1 from by first | exact below_st (((Below.refl _ _).alloc (Nat.le_refl _) _).alloc (by simp) _) hb1 | exact below_st HB.out hb1); clear hb1))
    go_ret
    exact ⟨by rw [e1.out]; rfl, by first | exact ((Below.refl _ _).alloc (Nat.le_refl _) _).alloc (by simp) _ | exact HB.out⟩
  rcases Bool.eq_false_or_eq_true (eqB x.On y.On) with q_On | q_On
  rotate_left
  · have e1 := Hid.mk' (eqB_no (fun e => eqB_ne q_On (congrArg Step.On e)) : eqB x y = false)
    go_enter Try.func101, Try.ntmps101
    go_wp2_with (first | (go_at_call 28; refine (eqStringS_calls x.Asks y.Asks _ _ _ (h0.out.below (by first | exact ((Below.refl _ _).alloc (Nat.le_refl _) _).alloc (by simp) _ | exact HB.out)) (g0.out.below (by first | exact ((Below.refl _ _).alloc (Nat.le_refl _) _).alloc (by simp) _ | exact HB.out))).mono ?_; rintro e w1 ⟨rfl, hb1⟩; obtain ⟨hcx, hfx⟩ := bcell hb1; have hz1 : w.heap.size + 1 < w1.heap.size := (by have := hb1.size; (try simp at this); omega); have hz0 : w.heap.size < w1.heap.size := (by omega); have HB := Asd.mk (show Below w.heap.size w w1 from by first | exact below_st (((Below.refl _ _).alloc (Nat.le_refl _) _).alloc (by simp) _) hb1 | exact below_st HB.out hb1); clear hb1) | (go_at_call 108; refine (eqCaseS_calls x.Cases y.Cases _ _ _ (h2.out.below (by first | exact ((Below.refl _ _).alloc (Nat.le_refl _) _).alloc (by simp) _ | exact HB.out)) (g2.out.below (by first | exact ((Below.refl _ _).alloc (Nat.le_refl _) _).alloc (by simp) _ | exact HB.out))).mono ?_; rintro e w1 ⟨rfl, hb1⟩; obtain ⟨hcx, hfx⟩ := bcell hb1; have hz1 : w.heap.size + 1 < w1.heap.size := (by have := hb1.size; (try simp at this); omega); have hz0 : w.heap.size < w1.heap.size := (by omega); have HB := Asd.mk (show Below w.heap.size w w1 from by first | exact below_st (((Below.refl _ _).alloc (Nat.le_refl _) _).alloc (by simp) _) hb1 | exact below_st HB.out hb1); clear hb1))
    go_ret
    exact ⟨by rw [e1.out]; rfl, by first | exact ((Below.refl _ _).alloc (Nat.le_refl _) _).alloc (by simp) _ | exact HB.out⟩
  rcases Bool.eq_false_or_eq_true (eqB x.Cases y.Cases) with q_Cases | q_Cases
  rotate_left
  · have e1 := Hid.mk' (eqB_no (fun e => eqB_ne q_Cases (congrArg Step.Cases e)) : eqB x y = false)
    go_enter Try.func101, Try.ntmps101
    go_wp2_with (first | (go_at_call 28; refine (eqStringS_calls x.Asks y.Asks _ _ _ (h0.out.below (by first | exact ((Below.refl _ _).alloc (Nat.le_refl _) _).alloc (by simp) _ | exact HB.out)) (g0.out.below (by first | exact ((Below.refl _ _).alloc (Nat.le_refl _) _).alloc (by simp) _ | exact HB.out))).mono ?_; rintro e w1 ⟨rfl, hb1⟩; obtain ⟨hcx, hfx⟩ := bcell hb1; have hz1 : w.heap.size + 1 < w1.heap.size := (by have := hb1.size; (try simp at this); omega); have hz0 : w.heap.size < w1.heap.size := (by omega); have HB := Asd.mk (show Below w.heap.size w w1 from by first | exact below_st (((Below.refl _ _).alloc (Nat.le_refl _) _).alloc (by simp) _) hb1 | exact below_st HB.out hb1); clear hb1) | (go_at_call 108; refine (eqCaseS_calls x.Cases y.Cases _ _ _ (h2.out.below (by first | exact ((Below.refl _ _).alloc (Nat.le_refl _) _).alloc (by simp) _ | exact HB.out)) (g2.out.below (by first | exact ((Below.refl _ _).alloc (Nat.le_refl _) _).alloc (by simp) _ | exact HB.out))).mono ?_; rintro e w1 ⟨rfl, hb1⟩; obtain ⟨hcx, hfx⟩ := bcell hb1; have hz1 : w.heap.size + 1 < w1.heap.size := (by have := hb1.size; (try simp at this); omega); have hz0 : w.heap.size < w1.heap.size := (by omega); have HB := Asd.mk (show Below w.heap.size w w1 from by first | exact below_st (((Below.refl _ _).alloc (Nat.le_refl _) _).alloc (by simp) _) hb1 | exact below_st HB.out hb1); clear hb1))
    go_ret
    exact ⟨by rw [e1.out]; rfl, by first | exact ((Below.refl _ _).alloc (Nat.le_refl _) _).alloc (by simp) _ | exact HB.out⟩
  rcases Bool.eq_false_or_eq_true (eqB x.Else y.Else) with q_Else | q_Else
  rotate_left
  · have e1 := Hid.mk' (eqB_no (fun e => eqB_ne q_Else (congrArg Step.Else e)) : eqB x y = false)
    go_enter Try.func101, Try.ntmps101
    go_wp2_with (first | (go_at_call 28; refine (eqStringS_calls x.Asks y.Asks _ _ _ (h0.out.below (by first | exact ((Below.refl _ _).alloc (Nat.le_refl _) _).alloc (by simp) _ | exact HB.out)) (g0.out.below (by first | exact ((Below.refl _ _).alloc (Nat.le_refl _) _).alloc (by simp) _ | exact HB.out))).mono ?_; rintro e w1 ⟨rfl, hb1⟩; obtain ⟨hcx, hfx⟩ := bcell hb1; have hz1 : w.heap.size + 1 < w1.heap.size := (by have := hb1.size; (try simp at this); omega); have hz0 : w.heap.size < w1.heap.size := (by omega); have HB := Asd.mk (show Below w.heap.size w w1 from by first | exact below_st (((Below.refl _ _).alloc (Nat.le_refl _) _).alloc (by simp) _) hb1 | exact below_st HB.out hb1); clear hb1) | (go_at_call 108; refine (eqCaseS_calls x.Cases y.Cases _ _ _ (h2.out.below (by first | exact ((Below.refl _ _).alloc (Nat.le_refl _) _).alloc (by simp) _ | exact HB.out)) (g2.out.below (by first | exact ((Below.refl _ _).alloc (Nat.le_refl _) _).alloc (by simp) _ | exact HB.out))).mono ?_; rintro e w1 ⟨rfl, hb1⟩; obtain ⟨hcx, hfx⟩ := bcell hb1; have hz1 : w.heap.size + 1 < w1.heap.size := (by have := hb1.size; (try simp at this); omega); have hz0 : w.heap.size < w1.heap.size := (by omega); have HB := Asd.mk (show Below w.heap.size w w1 from by first | exact below_st (((Below.refl _ _).alloc (Nat.le_refl _) _).alloc (by simp) _) hb1 | exact below_st HB.out hb1); clear hb1))
    go_ret
    exact ⟨by rw [e1.out]; rfl, by first | exact ((Below.refl _ _).alloc (Nat.le_refl _) _).alloc (by simp) _ | exact HB.out⟩
  rcases Bool.eq_false_or_eq_true (eqB x.Fall y.Fall) with q_Fall | q_Fall
  rotate_left
  · have e1 := Hid.mk' (eqB_no (fun e => eqB_ne q_Fall (congrArg Step.Fall e)) : eqB x y = false)
    go_enter Try.func101, Try.ntmps101
    go_wp2_with (first | (go_at_call 28; refine (eqStringS_calls x.Asks y.Asks _ _ _ (h0.out.below (by first | exact ((Below.refl _ _).alloc (Nat.le_refl _) _).alloc (by simp) _ | exact HB.out)) (g0.out.below (by first | exact ((Below.refl _ _).alloc (Nat.le_refl _) _).alloc (by simp) _ | exact HB.out))).mono ?_; rintro e w1 ⟨rfl, hb1⟩; obtain ⟨hcx, hfx⟩ := bcell hb1; have hz1 : w.heap.size + 1 < w1.heap.size := (by have := hb1.size; (try simp at this); omega); have hz0 : w.heap.size < w1.heap.size := (by omega); have HB := Asd.mk (show Below w.heap.size w w1 from by first | exact below_st (((Below.refl _ _).alloc (Nat.le_refl _) _).alloc (by simp) _) hb1 | exact below_st HB.out hb1); clear hb1) | (go_at_call 108; refine (eqCaseS_calls x.Cases y.Cases _ _ _ (h2.out.below (by first | exact ((Below.refl _ _).alloc (Nat.le_refl _) _).alloc (by simp) _ | exact HB.out)) (g2.out.below (by first | exact ((Below.refl _ _).alloc (Nat.le_refl _) _).alloc (by simp) _ | exact HB.out))).mono ?_; rintro e w1 ⟨rfl, hb1⟩; obtain ⟨hcx, hfx⟩ := bcell hb1; have hz1 : w.heap.size + 1 < w1.heap.size := (by have := hb1.size; (try simp at this); omega); have hz0 : w.heap.size < w1.heap.size := (by omega); have HB := Asd.mk (show Below w.heap.size w w1 from by first | exact below_st (((Below.refl _ _).alloc (Nat.le_refl _) _).alloc (by simp) _) hb1 | exact below_st HB.out hb1); clear hb1))
    go_ret
    exact ⟨by rw [e1.out]; rfl, by first | exact ((Below.refl _ _).alloc (Nat.le_refl _) _).alloc (by simp) _ | exact HB.out⟩
  rcases Bool.eq_false_or_eq_true (eqB x.End y.End) with q_End | q_End
  rotate_left
  · have e1 := Hid.mk' (eqB_no (fun e => eqB_ne q_End (congrArg Step.End e)) : eqB x y = false)
    go_enter Try.func101, Try.ntmps101
    go_wp2_with (first | (go_at_call 28; refine (eqStringS_calls x.Asks y.Asks _ _ _ (h0.out.below (by first | exact ((Below.refl _ _).alloc (Nat.le_refl _) _).alloc (by simp) _ | exact HB.out)) (g0.out.below (by first | exact ((Below.refl _ _).alloc (Nat.le_refl _) _).alloc (by simp) _ | exact HB.out))).mono ?_; rintro e w1 ⟨rfl, hb1⟩; obtain ⟨hcx, hfx⟩ := bcell hb1; have hz1 : w.heap.size + 1 < w1.heap.size := (by have := hb1.size; (try simp at this); omega); have hz0 : w.heap.size < w1.heap.size := (by omega); have HB := Asd.mk (show Below w.heap.size w w1 from by first | exact below_st (((Below.refl _ _).alloc (Nat.le_refl _) _).alloc (by simp) _) hb1 | exact below_st HB.out hb1); clear hb1) | (go_at_call 108; refine (eqCaseS_calls x.Cases y.Cases _ _ _ (h2.out.below (by first | exact ((Below.refl _ _).alloc (Nat.le_refl _) _).alloc (by simp) _ | exact HB.out)) (g2.out.below (by first | exact ((Below.refl _ _).alloc (Nat.le_refl _) _).alloc (by simp) _ | exact HB.out))).mono ?_; rintro e w1 ⟨rfl, hb1⟩; obtain ⟨hcx, hfx⟩ := bcell hb1; have hz1 : w.heap.size + 1 < w1.heap.size := (by have := hb1.size; (try simp at this); omega); have hz0 : w.heap.size < w1.heap.size := (by omega); have HB := Asd.mk (show Below w.heap.size w w1 from by first | exact below_st (((Below.refl _ _).alloc (Nat.le_refl _) _).alloc (by simp) _) hb1 | exact below_st HB.out hb1); clear hb1))
    go_ret
    exact ⟨by rw [e1.out]; rfl, by first | exact ((Below.refl _ _).alloc (Nat.le_refl _) _).alloc (by simp) _ | exact HB.out⟩
  rcases Bool.eq_false_or_eq_true (eqB x.Bad y.Bad) with q_Bad | q_Bad
  rotate_left
  · have e1 := Hid.mk' (eqB_no (fun e => eqB_ne q_Bad (congrArg Step.Bad e)) : eqB x y = false)
    go_enter Try.func101, Try.ntmps101
    go_wp2_with (first | (go_at_call 28; refine (eqStringS_calls x.Asks y.Asks _ _ _ (h0.out.below (by first | exact ((Below.refl _ _).alloc (Nat.le_refl _) _).alloc (by simp) _ | exact HB.out)) (g0.out.below (by first | exact ((Below.refl _ _).alloc (Nat.le_refl _) _).alloc (by simp) _ | exact HB.out))).mono ?_; rintro e w1 ⟨rfl, hb1⟩; obtain ⟨hcx, hfx⟩ := bcell hb1; have hz1 : w.heap.size + 1 < w1.heap.size := (by have := hb1.size; (try simp at this); omega); have hz0 : w.heap.size < w1.heap.size := (by omega); have HB := Asd.mk (show Below w.heap.size w w1 from by first | exact below_st (((Below.refl _ _).alloc (Nat.le_refl _) _).alloc (by simp) _) hb1 | exact below_st HB.out hb1); clear hb1) | (go_at_call 108; refine (eqCaseS_calls x.Cases y.Cases _ _ _ (h2.out.below (by first | exact ((Below.refl _ _).alloc (Nat.le_refl _) _).alloc (by simp) _ | exact HB.out)) (g2.out.below (by first | exact ((Below.refl _ _).alloc (Nat.le_refl _) _).alloc (by simp) _ | exact HB.out))).mono ?_; rintro e w1 ⟨rfl, hb1⟩; obtain ⟨hcx, hfx⟩ := bcell hb1; have hz1 : w.heap.size + 1 < w1.heap.size := (by have := hb1.size; (try simp at this); omega); have hz0 : w.heap.size < w1.heap.size := (by omega); have HB := Asd.mk (show Below w.heap.size w w1 from by first | exact below_st (((Below.refl _ _).alloc (Nat.le_refl _) _).alloc (by simp) _) hb1 | exact below_st HB.out hb1); clear hb1))
    go_ret
    exact ⟨by rw [e1.out]; rfl, by first | exact ((Below.refl _ _).alloc (Nat.le_refl _) _).alloc (by simp) _ | exact HB.out⟩
  rcases Bool.eq_false_or_eq_true (eqB x.Give y.Give) with q_Give | q_Give
  rotate_left
  · have e1 := Hid.mk' (eqB_no (fun e => eqB_ne q_Give (congrArg Step.Give e)) : eqB x y = false)
    go_enter Try.func101, Try.ntmps101
    go_wp2_with (first | (go_at_call 28; refine (eqStringS_calls x.Asks y.Asks _ _ _ (h0.out.below (by first | exact ((Below.refl _ _).alloc (Nat.le_refl _) _).alloc (by simp) _ | exact HB.out)) (g0.out.below (by first | exact ((Below.refl _ _).alloc (Nat.le_refl _) _).alloc (by simp) _ | exact HB.out))).mono ?_; rintro e w1 ⟨rfl, hb1⟩; obtain ⟨hcx, hfx⟩ := bcell hb1; have hz1 : w.heap.size + 1 < w1.heap.size := (by have := hb1.size; (try simp at this); omega); have hz0 : w.heap.size < w1.heap.size := (by omega); have HB := Asd.mk (show Below w.heap.size w w1 from by first | exact below_st (((Below.refl _ _).alloc (Nat.le_refl _) _).alloc (by simp) _) hb1 | exact below_st HB.out hb1); clear hb1) | (go_at_call 108; refine (eqCaseS_calls x.Cases y.Cases _ _ _ (h2.out.below (by first | exact ((Below.refl _ _).alloc (Nat.le_refl _) _).alloc (by simp) _ | exact HB.out)) (g2.out.below (by first | exact ((Below.refl _ _).alloc (Nat.le_refl _) _).alloc (by simp) _ | exact HB.out))).mono ?_; rintro e w1 ⟨rfl, hb1⟩; obtain ⟨hcx, hfx⟩ := bcell hb1; have hz1 : w.heap.size + 1 < w1.heap.size := (by have := hb1.size; (try simp at this); omega); have hz0 : w.heap.size < w1.heap.size := (by omega); have HB := Asd.mk (show Below w.heap.size w w1 from by first | exact below_st (((Below.refl _ _).alloc (Nat.le_refl _) _).alloc (by simp) _) hb1 | exact below_st HB.out hb1); clear hb1))
    go_ret
    exact ⟨by rw [e1.out]; rfl, by first | exact ((Below.refl _ _).alloc (Nat.le_refl _) _).alloc (by simp) _ | exact HB.out⟩
  have e1 := Hid.mk' (eqB_yes (show x = y by cases x; cases y; simp only [Step.mk.injEq]; exact ⟨eqB_of q_Asks, eqB_of q_On, eqB_of q_Cases, eqB_of q_Else, eqB_of q_Fall, eqB_of q_End, eqB_of q_Bad, eqB_of q_Give⟩) : eqB x y = true)
  go_enter Try.func101, Try.ntmps101
  go_wp2_with (first | (go_at_call 28; refine (eqStringS_calls x.Asks y.Asks _ _ _ (h0.out.below (by first | exact ((Below.refl _ _).alloc (Nat.le_refl _) _).alloc (by simp) _ | exact HB.out)) (g0.out.below (by first | exact ((Below.refl _ _).alloc (Nat.le_refl _) _).alloc (by simp) _ | exact HB.out))).mono ?_; rintro e w1 ⟨rfl, hb1⟩; obtain ⟨hcx, hfx⟩ := bcell hb1; have hz1 : w.heap.size + 1 < w1.heap.size := (by have := hb1.size; (try simp at this); omega); have hz0 : w.heap.size < w1.heap.size := (by omega); have HB := Asd.mk (show Below w.heap.size w w1 from by first | exact below_st (((Below.refl _ _).alloc (Nat.le_refl _) _).alloc (by simp) _) hb1 | exact below_st HB.out hb1); clear hb1) | (go_at_call 108; refine (eqCaseS_calls x.Cases y.Cases _ _ _ (h2.out.below (by first | exact ((Below.refl _ _).alloc (Nat.le_refl _) _).alloc (by simp) _ | exact HB.out)) (g2.out.below (by first | exact ((Below.refl _ _).alloc (Nat.le_refl _) _).alloc (by simp) _ | exact HB.out))).mono ?_; rintro e w1 ⟨rfl, hb1⟩; obtain ⟨hcx, hfx⟩ := bcell hb1; have hz1 : w.heap.size + 1 < w1.heap.size := (by have := hb1.size; (try simp at this); omega); have hz0 : w.heap.size < w1.heap.size := (by omega); have HB := Asd.mk (show Below w.heap.size w w1 from by first | exact below_st (((Below.refl _ _).alloc (Nat.le_refl _) _).alloc (by simp) _) hb1 | exact below_st HB.out hb1); clear hb1))
  go_ret
  exact ⟨by rw [e1.out]; rfl, by first | exact ((Below.refl _ _).alloc (Nat.le_refl _) _).alloc (by simp) _ | exact HB.out⟩
set_option maxRecDepth 100000 in
set_option maxHeartbeats 2000000 in
theorem eqStepS_calls {tStep tCase tStep' tCase' : Nat} (xs ys : List Step) (v u : Value) (w : World) (h : rep w (StepsT tStep tCase xs) v) (h' : rep w (StepsT tStep' tCase' ys) u) :
    Calls Try.prog 83 #[v, u] w fun e w' => e = .returned (.bool (eqB xs ys)) ∧ Below w.heap.size w w' := by
  obtain ⟨A, c, rfl, hc, hn⟩ := rep_len h
  obtain ⟨A', c', rfl, hc', hn'⟩ := rep_len h'
  replace h := Asd.mk h
  replace h' := Asd.mk h'
  by_cases hl : xs.length = ys.length
  rotate_left
  · have e1 := Hid.mk' (eqB_no (fun e => hl (congrArg List.length e)) : eqB xs ys = false)
    have hb : ((xs.length : Int) != (ys.length : Int)) = true := by simp; omega
    replace hl := Hid.mk' hl
    go_enter Try.func83, Try.ntmps83
    go_wp2
    go_ret
    exact ⟨by rw [e1.out]; rfl, Below.refl _ _⟩
  have hb : ((xs.length : Int) != (ys.length : Int)) = false := by simp; omega
  replace hl := Hid.mk' hl
  go_enter Try.func83, Try.ntmps83
  go_wp2
  go_loopw [5] (fun i wr => ∃ k : Nat, k ≤ xs.length ∧ i = .int .i64 k ∧ eqTo xs ys k ∧ Below w.heap.size w wr) (fun i _ => xs.length - (intOf i).toNat)
  case atStart => exact ⟨0, by omega, rfl, eqTo_zero _ _, Below.refl _ _⟩
  case round =>
    obtain ⟨k, hk, rfl, hA, hbr⟩ := hrel
    by_cases hlt : k < xs.length
    · have hlt' : k < ys.length := by have := hl.out; omega
      obtain ⟨a, c', v0, v2, he, k0, k1, k2, k3, k4, k5, k6, k7, h0, h2, hr⟩ := Step.elem (h.out.below hbr) hlt
      cases he
      obtain ⟨B0, b0, rfl, _, _⟩ := rep_len h0
      obtain ⟨B2, b2, rfl, _, _⟩ := rep_len h2
      clear h0 h2
      replace hr := Asd.mk hr
      obtain ⟨a, d', u0, u2, he, m0, m1, m2, m3, m4, m5, m6, m7, g0, g2, gr⟩ := Step.elem (h'.out.below hbr) hlt'
      cases he
      obtain ⟨C0, d0, rfl, _, _⟩ := rep_len g0
      obtain ⟨C2, d2, rfl, _, _⟩ := rep_len g2
      clear g0 g2
      replace gr := Asd.mk gr
      cases hq : eqB xs[k] ys[k] with
      | true =>
        have e1 := eqTo_succ hA hlt hlt' (eqB_of hq)
        go_wp2
        go_still_tail 8, (by kernel_rfl)
        change wpList _ _ _ _ _ wr.drew
        go_wp2_with (first | (go_at_call 101; refine (eqStep_calls xs[k] ys[k] _ (hr.out.below (by exact Below.drew (Below.refl _ _))) (gr.out.below (by exact Below.drew (Below.refl _ _)))).mono ?_; rintro e w1 ⟨rfl, hb1⟩))
        go_roundw
        case rel => exact ⟨k + 1, by omega, by go_num, e1, below_st hbr.drew hb1⟩
        case measure => simp [intOf]; omega
      | false =>
        have e1 := Hid.mk' (eqB_no (ne_at hlt hlt' (eqB_ne hq)) : eqB xs ys = false)
        go_wp2
        go_still_tail 8, (by kernel_rfl)
        change wpList _ _ _ _ _ wr.drew
        go_wp2_with (first | (go_at_call 101; refine (eqStep_calls xs[k] ys[k] _ (hr.out.below (by exact Below.drew (Below.refl _ _))) (gr.out.below (by exact Below.drew (Below.refl _ _)))).mono ?_; rintro e w1 ⟨rfl, hb1⟩))
        go_ret
        exact ⟨by rw [e1.out]; rfl, below_st hbr.drew hb1⟩
    · obtain rfl : k = xs.length := by omega
      have e1 := Hid.mk' (eqB_yes (eqTo_end hl.out hA))
      go_wp2
      go_ret
      exact ⟨by rw [e1.out]; rfl, hbr⟩
set_option maxRecDepth 100000 in
set_option maxHeartbeats 2000000 in
theorem eqAction_calls {tStep tCase tStep' tCase' : Nat} (x y : Action) (w : World) {vs us : List Value} (h : reps w (x.c tStep tCase) vs) (h' : reps w (y.c tStep' tCase') us) :
    Calls Try.prog 49 #[.agg vs.toArray, .agg us.toArray] w fun e w' => e = .returned (.bool (eqB x y)) ∧ Below w.heap.size w w' := by
  obtain ⟨v1, rfl, h1⟩ := Action.ropen h
  obtain ⟨u1, rfl, g1⟩ := Action.ropen h'
  obtain ⟨A1, c1, rfl, _, _⟩ := rep_len h1
  replace h1 := Asd.mk h1
  obtain ⟨B1, b1, rfl, _, _⟩ := rep_len g1
  replace g1 := Asd.mk g1
  clear h h'
  have r_Cost := eqB_int x.Cost y.Cost
  rcases Bool.eq_false_or_eq_true (eqB x.Cost y.Cost) with q_Cost | q_Cost
  rotate_left
  · have e1 := Hid.mk' (eqB_no (fun e => eqB_ne q_Cost (congrArg Action.Cost e)) : eqB x y = false)
    go_enter Try.func49, Try.ntmps49
    go_wp2_with (first | (go_at_call 83; refine (eqStepS_calls x.Steps y.Steps _ _ _ (h1.out.below (by first | exact ((Below.refl _ _).alloc (Nat.le_refl _) _).alloc (by simp) _ | exact HB.out)) (g1.out.below (by first | exact ((Below.refl _ _).alloc (Nat.le_refl _) _).alloc (by simp) _ | exact HB.out))).mono ?_; rintro e w1 ⟨rfl, hb1⟩; obtain ⟨hcx, hfx⟩ := bcell hb1; have hz1 : w.heap.size + 1 < w1.heap.size := (by have := hb1.size; (try simp at this); omega); have hz0 : w.heap.size < w1.heap.size := (by omega); have HB := Asd.mk (show Below w.heap.size w w1 from by first | exact below_st (((Below.refl _ _).alloc (Nat.le_refl _) _).alloc (by simp) _) hb1 | exact below_st HB.out hb1); clear hb1))
    go_ret
    exact ⟨by rw [e1.out]; rfl, by first | exact ((Below.refl _ _).alloc (Nat.le_refl _) _).alloc (by simp) _ | exact HB.out⟩
  rcases Bool.eq_false_or_eq_true (eqB x.Steps y.Steps) with q_Steps | q_Steps
  rotate_left
  · have e1 := Hid.mk' (eqB_no (fun e => eqB_ne q_Steps (congrArg Action.Steps e)) : eqB x y = false)
    go_enter Try.func49, Try.ntmps49
    go_wp2_with (first | (go_at_call 83; refine (eqStepS_calls x.Steps y.Steps _ _ _ (h1.out.below (by first | exact ((Below.refl _ _).alloc (Nat.le_refl _) _).alloc (by simp) _ | exact HB.out)) (g1.out.below (by first | exact ((Below.refl _ _).alloc (Nat.le_refl _) _).alloc (by simp) _ | exact HB.out))).mono ?_; rintro e w1 ⟨rfl, hb1⟩; obtain ⟨hcx, hfx⟩ := bcell hb1; have hz1 : w.heap.size + 1 < w1.heap.size := (by have := hb1.size; (try simp at this); omega); have hz0 : w.heap.size < w1.heap.size := (by omega); have HB := Asd.mk (show Below w.heap.size w w1 from by first | exact below_st (((Below.refl _ _).alloc (Nat.le_refl _) _).alloc (by simp) _) hb1 | exact below_st HB.out hb1); clear hb1))
    go_ret
    exact ⟨by rw [e1.out]; rfl, by first | exact ((Below.refl _ _).alloc (Nat.le_refl _) _).alloc (by simp) _ | exact HB.out⟩
  have e1 := Hid.mk' (eqB_yes (show x = y by cases x; cases y; simp only [Action.mk.injEq]; exact ⟨eqB_of q_Cost, eqB_of q_Steps⟩) : eqB x y = true)
  go_enter Try.func49, Try.ntmps49
  go_wp2_with (first | (go_at_call 83; refine (eqStepS_calls x.Steps y.Steps _ _ _ (h1.out.below (by first | exact ((Below.refl _ _).alloc (Nat.le_refl _) _).alloc (by simp) _ | exact HB.out)) (g1.out.below (by first | exact ((Below.refl _ _).alloc (Nat.le_refl _) _).alloc (by simp) _ | exact HB.out))).mono ?_; rintro e w1 ⟨rfl, hb1⟩; obtain ⟨hcx, hfx⟩ := bcell hb1; have hz1 : w.heap.size + 1 < w1.heap.size := (by have := hb1.size; (try simp at this); omega); have hz0 : w.heap.size < w1.heap.size := (by omega); have HB := Asd.mk (show Below w.heap.size w w1 from by first | exact below_st (((Below.refl _ _).alloc (Nat.le_refl _) _).alloc (by simp) _) hb1 | exact below_st HB.out hb1); clear hb1))
  go_ret
  exact ⟨by rw [e1.out]; rfl, by first | exact ((Below.refl _ _).alloc (Nat.le_refl _) _).alloc (by simp) _ | exact HB.out⟩
end Go.Proofs.Ytmjfkjdfmpileaa.M
