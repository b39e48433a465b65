/- Contracts: the laws' own equalities. -/
import Derived.Test.YtmjfkjdfmpileaaEqA
import Derived.StillTailTactics
set_option linter.unusedVariables false
set_option linter.unusedSimpArgs false
namespace Go.Proofs.Ytmjfkjdfmpileaa.M
open Go.RowKit

set_option maxRecDepth 100000 in
set_option maxHeartbeats 2000000 in
theorem eqNode_calls {tStep tCase tStep' tCase' : Nat} (x y : Node) (w : World) {vs us : List Value} (h : reps w (x.c tStep tCase) vs) (h' : reps w (y.c tStep' tCase') us) :
    Calls Try.prog 18 #[.agg vs.toArray, .agg us.toArray] w fun e w' => e = .returned (.bool (eqB x y)) ∧ Below w.heap.size w w' := by
  obtain ⟨v2, rfl, h2⟩ := Node.ropen h
  obtain ⟨u2, rfl, g2⟩ := Node.ropen h'
  obtain ⟨A2, c2, rfl, _, _⟩ := rep_len h2
  replace h2 := Asd.mk h2
  obtain ⟨B2, b2, rfl, _, _⟩ := rep_len g2
  replace g2 := Asd.mk g2
  clear h h'
  have r_Name := eqB_str x.Name y.Name
  have s_Name := eqB_str2 x.Name y.Name
  rcases Bool.eq_false_or_eq_true (eqB x.Name y.Name) with q_Name | q_Name
  rotate_left
  · have e1 := Hid.mk' (eqB_no (fun e => eqB_ne q_Name (congrArg Node.Name e)) : eqB x y = false)
    go_enter Try.func18, Try.ntmps18
    go_wp2_with (first | (go_at_call 49; refine (eqAction_calls x.Action y.Action _ (Action.rmk x.Action (h2.out.below (by first | exact ((Below.refl _ _).alloc (Nat.le_refl _) _).alloc (by simp) _ | exact HB.out))) (Action.rmk y.Action (g2.out.below (by first | exact ((Below.refl _ _).alloc (Nat.le_refl _) _).alloc (by simp) _ | exact HB.out)))).mono ?_; rintro e w1 ⟨rfl, hb1⟩; obtain ⟨hcx, hfx⟩ := bcell hb1; have hz1 : w.heap.size + 1 < w1.heap.size := (by have := hb1.size; (try simp at this); omega); have hz0 : w.heap.size < w1.heap.size := (by omega); have HB := Asd.mk (show Below w.heap.size w w1 from by first | exact below_st (((Below.refl _ _).alloc (Nat.le_refl _) _).alloc (by simp) _) hb1 | exact below_st HB.out hb1); clear hb1))
    go_ret
    exact ⟨by rw [e1.out]; rfl, by first | exact ((Below.refl _ _).alloc (Nat.le_refl _) _).alloc (by simp) _ | exact HB.out⟩
  rcases Bool.eq_false_or_eq_true (eqB x.Action y.Action) with q_Action | q_Action
  rotate_left
  · have e1 := Hid.mk' (eqB_no (fun e => eqB_ne q_Action (congrArg Node.Action e)) : eqB x y = false)
    go_enter Try.func18, Try.ntmps18
    go_wp2_with (first | (go_at_call 49; refine (eqAction_calls x.Action y.Action _ (Action.rmk x.Action (h2.out.below (by first | exact ((Below.refl _ _).alloc (Nat.le_refl _) _).alloc (by simp) _ | exact HB.out))) (Action.rmk y.Action (g2.out.below (by first | exact ((Below.refl _ _).alloc (Nat.le_refl _) _).alloc (by simp) _ | exact HB.out)))).mono ?_; rintro e w1 ⟨rfl, hb1⟩; obtain ⟨hcx, hfx⟩ := bcell hb1; have hz1 : w.heap.size + 1 < w1.heap.size := (by have := hb1.size; (try simp at this); omega); have hz0 : w.heap.size < w1.heap.size := (by omega); have HB := Asd.mk (show Below w.heap.size w w1 from by first | exact below_st (((Below.refl _ _).alloc (Nat.le_refl _) _).alloc (by simp) _) hb1 | exact below_st HB.out hb1); clear hb1))
    go_ret
    exact ⟨by rw [e1.out]; rfl, by first | exact ((Below.refl _ _).alloc (Nat.le_refl _) _).alloc (by simp) _ | exact HB.out⟩
  have e1 := Hid.mk' (eqB_yes (show x = y by cases x; cases y; simp only [Node.mk.injEq]; exact ⟨eqB_of q_Name, eqB_of q_Action⟩) : eqB x y = true)
  go_enter Try.func18, Try.ntmps18
  go_wp2_with (first | (go_at_call 49; refine (eqAction_calls x.Action y.Action _ (Action.rmk x.Action (h2.out.below (by first | exact ((Below.refl _ _).alloc (Nat.le_refl _) _).alloc (by simp) _ | exact HB.out))) (Action.rmk y.Action (g2.out.below (by first | exact ((Below.refl _ _).alloc (Nat.le_refl _) _).alloc (by simp) _ | exact HB.out)))).mono ?_; rintro e w1 ⟨rfl, hb1⟩; obtain ⟨hcx, hfx⟩ := bcell hb1; have hz1 : w.heap.size + 1 < w1.heap.size := (by have := hb1.size; (try simp at this); omega); have hz0 : w.heap.size < w1.heap.size := (by omega); have HB := Asd.mk (show Below w.heap.size w w1 from by first | exact below_st (((Below.refl _ _).alloc (Nat.le_refl _) _).alloc (by simp) _) hb1 | exact below_st HB.out hb1); clear hb1))
  go_ret
  exact ⟨by rw [e1.out]; rfl, by first | exact ((Below.refl _ _).alloc (Nat.le_refl _) _).alloc (by simp) _ | exact HB.out⟩
set_option maxRecDepth 100000 in
set_option maxHeartbeats 2000000 in
theorem eqNodeS_calls {tNode tStep tCase tNode' tStep' tCase' : Nat} (xs ys : List Node) (v u : Value) (w : World) (h : rep w (NodesT tNode tStep tCase xs) v) (h' : rep w (NodesT tNode' tStep' tCase' ys) u) :
    Calls Try.prog 41 #[v, u] w fun e w' => e = .returned (.bool (eqB xs ys)) ∧ Below w.heap.size w w' := by
  obtain ⟨A, c, rfl, hc, hn⟩ := rep_len h
  obtain ⟨A', c', rfl, hc', hn'⟩ := rep_len h'
  replace h := Asd.mk h
  replace h' := Asd.mk h'
  by_cases hl : xs.length = ys.length
  rotate_left
  · have e1 := Hid.mk' (eqB_no (fun e => hl (congrArg List.length e)) : eqB xs ys = false)
    have hb : ((xs.length : Int) != (ys.length : Int)) = true := by simp; omega
    replace hl := Hid.mk' hl
    go_enter Try.func41, Try.ntmps41
    go_wp2
    go_ret
    exact ⟨by rw [e1.out]; rfl, Below.refl _ _⟩
  have hb : ((xs.length : Int) != (ys.length : Int)) = false := by simp; omega
  replace hl := Hid.mk' hl
  go_enter Try.func41, Try.ntmps41
  go_wp2
  go_loopw [5] (fun i wr => ∃ k : Nat, k ≤ xs.length ∧ i = .int .i64 k ∧ eqTo xs ys k ∧ Below w.heap.size w wr) (fun i _ => xs.length - (intOf i).toNat)
  case atStart => exact ⟨0, by omega, rfl, eqTo_zero _ _, Below.refl _ _⟩
  case round =>
    obtain ⟨k, hk, rfl, hA, hbr⟩ := hrel
    by_cases hlt : k < xs.length
    · have hlt' : k < ys.length := by have := hl.out; omega
      obtain ⟨a, c', v2, he, k0, k1, k2, h2, hr⟩ := Node.elem (h.out.below hbr) hlt
      cases he
      obtain ⟨B2, b2, rfl, _, _⟩ := rep_len h2
      clear h2
      replace hr := Asd.mk hr
      obtain ⟨a, d', u2, he, m0, m1, m2, g2, gr⟩ := Node.elem (h'.out.below hbr) hlt'
      cases he
      obtain ⟨C2, d2, rfl, _, _⟩ := rep_len g2
      clear g2
      replace gr := Asd.mk gr
      cases hq : eqB xs[k] ys[k] with
      | true =>
        have e1 := eqTo_succ hA hlt hlt' (eqB_of hq)
        go_wp2
        go_still_tail 8, (by kernel_rfl)
        change wpList _ _ _ _ _ wr.drew
        go_wp2_with (first | (go_at_call 18; refine (eqNode_calls xs[k] ys[k] _ (hr.out.below (by exact Below.drew (Below.refl _ _))) (gr.out.below (by exact Below.drew (Below.refl _ _)))).mono ?_; rintro e w1 ⟨rfl, hb1⟩))
        go_roundw
        case rel => exact ⟨k + 1, by omega, by go_num, e1, below_st hbr.drew hb1⟩
        case measure => simp [intOf]; omega
      | false =>
        have e1 := Hid.mk' (eqB_no (ne_at hlt hlt' (eqB_ne hq)) : eqB xs ys = false)
        go_wp2
        go_still_tail 8, (by kernel_rfl)
        change wpList _ _ _ _ _ wr.drew
        go_wp2_with (first | (go_at_call 18; refine (eqNode_calls xs[k] ys[k] _ (hr.out.below (by exact Below.drew (Below.refl _ _))) (gr.out.below (by exact Below.drew (Below.refl _ _)))).mono ?_; rintro e w1 ⟨rfl, hb1⟩))
        go_ret
        exact ⟨by rw [e1.out]; rfl, below_st hbr.drew hb1⟩
    · obtain rfl : k = xs.length := by omega
      have e1 := Hid.mk' (eqB_yes (eqTo_end hl.out hA))
      go_wp2
      go_ret
      exact ⟨by rw [e1.out]; rfl, hbr⟩
set_option maxRecDepth 100000 in
set_option maxHeartbeats 2000000 in
theorem eqWeb_calls {tNode tStep tCase tNode' tStep' tCase' : Nat} (x y : Web) (w : World) {vs us : List Value} (h : reps w (x.c tNode tStep tCase) vs) (h' : reps w (y.c tNode' tStep' tCase') us) :
    Calls Try.prog 11 #[.agg vs.toArray, .agg us.toArray] w fun e w' => e = .returned (.bool (eqB x y)) ∧ Below w.heap.size w w' := by
  obtain ⟨v0, rfl, h0⟩ := Web.ropen h
  obtain ⟨u0, rfl, g0⟩ := Web.ropen h'
  obtain ⟨A0, c0, rfl, _, _⟩ := rep_len h0
  replace h0 := Asd.mk h0
  obtain ⟨B0, b0, rfl, _, _⟩ := rep_len g0
  replace g0 := Asd.mk g0
  clear h h'
  rcases Bool.eq_false_or_eq_true (eqB x.Nodes y.Nodes) with q_Nodes | q_Nodes
  rotate_left
  · have e1 := Hid.mk' (eqB_no (fun e => eqB_ne q_Nodes (congrArg Web.Nodes e)) : eqB x y = false)
    go_enter Try.func11, Try.ntmps11
    go_wp2_with (first | (go_at_call 41; refine (eqNodeS_calls x.Nodes y.Nodes _ _ _ (h0.out.below (by first | exact ((Below.refl _ _).alloc (Nat.le_refl _) _).alloc (by simp) _ | exact HB.out)) (g0.out.below (by first | exact ((Below.refl _ _).alloc (Nat.le_refl _) _).alloc (by simp) _ | exact HB.out))).mono ?_; rintro e w1 ⟨rfl, hb1⟩; obtain ⟨hcx, hfx⟩ := bcell hb1; have hz1 : w.heap.size + 1 < w1.heap.size := (by have := hb1.size; (try simp at this); omega); have hz0 : w.heap.size < w1.heap.size := (by omega); have HB := Asd.mk (show Below w.heap.size w w1 from by first | exact below_st (((Below.refl _ _).alloc (Nat.le_refl _) _).alloc (by simp) _) hb1 | exact below_st HB.out hb1); clear hb1))
    go_ret
    exact ⟨by rw [e1.out]; rfl, by first | exact ((Below.refl _ _).alloc (Nat.le_refl _) _).alloc (by simp) _ | exact HB.out⟩
  have e1 := Hid.mk' (eqB_yes (show x = y by cases x; cases y; simp only [Web.mk.injEq]; exact eqB_of q_Nodes) : eqB x y = true)
  go_enter Try.func11, Try.ntmps11
  go_wp2_with (first | (go_at_call 41; refine (eqNodeS_calls x.Nodes y.Nodes _ _ _ (h0.out.below (by first | exact ((Below.refl _ _).alloc (Nat.le_refl _) _).alloc (by simp) _ | exact HB.out)) (g0.out.below (by first | exact ((Below.refl _ _).alloc (Nat.le_refl _) _).alloc (by simp) _ | exact HB.out))).mono ?_; rintro e w1 ⟨rfl, hb1⟩; obtain ⟨hcx, hfx⟩ := bcell hb1; have hz1 : w.heap.size + 1 < w1.heap.size := (by have := hb1.size; (try simp at this); omega); have hz0 : w.heap.size < w1.heap.size := (by omega); have HB := Asd.mk (show Below w.heap.size w w1 from by first | exact below_st (((Below.refl _ _).alloc (Nat.le_refl _) _).alloc (by simp) _) hb1 | exact below_st HB.out hb1); clear hb1))
  go_ret
  exact ⟨by rw [e1.out]; rfl, by first | exact ((Below.refl _ _).alloc (Nat.le_refl _) _).alloc (by simp) _ | exact HB.out⟩
end Go.Proofs.Ytmjfkjdfmpileaa.M
