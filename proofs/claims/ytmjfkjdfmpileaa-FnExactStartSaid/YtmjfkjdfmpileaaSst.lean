/- Contracts: the reference's steps and actions. -/
import Derived.Test.YtmjfkjdfmpileaaSnm
set_option linter.unusedVariables false
set_option linter.unusedSimpArgs false
namespace Go.Proofs.Ytmjfkjdfmpileaa.M
open Go.RowKit

theorem onOk_iff (x : Step) : onOk x = true ↔ x.On = 0 ∨ inB x.On 0 (x.Asks.length - 1) = true := by
  unfold onOk
  cases h : x.Asks with
  | nil => simp [inB]; omega
  | cons a r => simp [inB]; omega
set_option maxRecDepth 100000 in
set_option maxHeartbeats 4000000 in
theorem l1StepOk_calls {tc : Nat} (x : Step) (n : Int) (w : World) {vs : List Value} (h : reps w (x.c tc) vs) (hn0 : 0 ≤ n) (hn1 : n ≤ 9223372036854775807) (hz : x.Sm) :
    Calls Try.prog 80 #[.agg vs.toArray, .int .i64 n] w fun e w' => e = .returned (.bool (stepOk x n)) ∧ Below w.heap.size w w' := by
  unfold Step.Sm at hz
  obtain ⟨v0, v2, rfl, h0, h2⟩ := Step.ropen h
  obtain ⟨A0, c0, rfl, hc0, hn0⟩ := rep_len h0
  obtain ⟨A2, c2, rfl, hc2, hn2⟩ := rep_len h2
  have h0 := Asd.mk h0
  have h2 := Asd.mk h2
  clear h
  by_cases hE : x.End = true
  · go_enter Try.func80, Try.ntmps80
    go_wp2
    all_goals go_ret
    all_goals exact ⟨by first | (simp [stepOk, endOk, *]; done) | (simp [stepOk, endOk, *]; intros; omega), (Below.refl _ _).alloc (Nat.le_refl _) _⟩
  have hE := Bool.eq_false_iff.2 hE
  have hb := (Below.refl w.heap.size w).alloc (Nat.le_refl _) (.cells #[.slice A0 x.Asks.length c0, .int .i64 x.On, .slice A2 x.Cases.length c2, .int .i64 x.Else, .int .i64 x.Fall, .bool false, .bool x.Bad, .string x.Give] 108)
  by_cases hP : (preOk x n && namesOk x.Asks) = true
  rotate_left
  · have e1 := Hid.mk' (show stepOk x n = false by simp [stepOk, hE]; simp at hP; intro h; simp [hP h])
    have hP := Hid.mk' hP
    go_enter Try.func80, Try.ntmps80
    go_wp2_with (first | (go_at_call 70; refine (l1In_calls _ _ _ _).mono ?_; rintro e w' ⟨rfl, rfl⟩) | (go_at_call 86; refine (l1Names_calls x.Asks _ _ (h0.out.below ((Below.refl _ _).alloc (Nat.le_refl _) _))).mono ?_; rintro e w1 ⟨rfl, hb1⟩; obtain ⟨hcx, hfx⟩ := bcell hb1))
    all_goals try (go_ret; exact ⟨by rw [e1.out]; rfl, by first | exact (Below.refl _ _).alloc (Nat.le_refl _) _ | exact below_st ((Below.refl _ _).alloc (Nat.le_refl _) _) hb1⟩)
    all_goals (exfalso; refine hP.out ?_; obtain ⟨⟨q1, q2⟩, q3⟩ := ‹(_ ∧ _) ∧ _›; have q4 : x.Asks.length ≤ 5 := by omega
               have q5 : x.Cases.length ≤ 5 := by omega
               simp at q3; simp [preOk, *]; done)
  simp only [Bool.and_eq_true] at hP
  obtain ⟨hP, hN⟩ := hP
  obtain ⟨hB, hG, hAl, hCl, hEl, hFa⟩ := preOk_iff hP
  have hP := Hid.mk' hP
  by_cases hO : onOk x = true
  rotate_left
  · have e1 := Hid.mk' (stepOk_on (n := n) hE (Bool.eq_false_iff.2 hO))
    obtain ⟨q1, q2⟩ : ((x.On != 0) = true) ∧ inB x.On 0 (x.Asks.length - 1) = false := by
      have := mt (onOk_iff x).2 hO
      simp at this ⊢
      exact this
    have hO := Hid.mk' hO
    go_enter Try.func80, Try.ntmps80
    go_wp2_with (first | (go_at_call 70; refine (l1In_calls _ _ _ _).mono ?_; rintro e w' ⟨rfl, rfl⟩) | (go_at_call 86; refine (l1Names_calls x.Asks _ _ (h0.out.below ((Below.refl _ _).alloc (Nat.le_refl _) _))).mono ?_; rintro e w1 ⟨rfl, hb1⟩; obtain ⟨hcx, hfx⟩ := bcell hb1))
    go_ret
    exact ⟨by rw [e1.out]; rfl, below_st ((Below.refl _ _).alloc (Nat.le_refl _) _) hb1⟩
  have hc : ((x.On != 0) = false) ∨ (((x.On != 0) = true) ∧ inB x.On 0 (x.Asks.length - 1) = true) := by
    rcases (onOk_iff x).1 hO with h | h
    · left; simp [h]
    · by_cases h' : x.On = 0
      · left; simp [h']
      · right; exact ⟨by simp [h'], h⟩
  have hO' := Hid.mk' hO
  clear hO
  rcases hc with q1 | ⟨q1, q2⟩
  all_goals
    go_enter Try.func80, Try.ntmps80
    go_wp2_with (first | (go_at_call 70; refine (l1In_calls _ _ _ _).mono ?_; rintro e w' ⟨rfl, rfl⟩) | (go_at_call 86; refine (l1Names_calls x.Asks _ _ (h0.out.below ((Below.refl _ _).alloc (Nat.le_refl _) _))).mono ?_; rintro e w1 ⟨rfl, hb1⟩; obtain ⟨hcx, hfx⟩ := bcell hb1))
    have h2' := h2.out.below (below_st ((Below.refl _ _).alloc (Nat.le_refl _) _) hb1)
    go_loop [5] (fun i => ∃ k : Nat, k ≤ x.Cases.length ∧ i = .int .i64 k ∧ allTo (caseOk n) x.Cases k) (fun i => x.Cases.length - (intOf i).toNat)
    case atStart => exact ⟨0, by omega, rfl, allTo_zero _ _⟩
    case round =>
      obtain ⟨k, hk, rfl, hA2⟩ := hrel
      by_cases hlt : k < x.Cases.length
      · obtain ⟨a, c', he, k0, k1, _⟩ := Case.elem h2' hlt
        cases he
        by_cases hx : caseOk n x.Cases[k] = true
        · have e1 := allTo_succ hA2 hlt hx
          obtain ⟨r1, r2⟩ : x.Cases[k].Text.size ≤ 200 ∧ inB x.Cases[k].Goto 0 (n - 1) = true := by simpa [caseOk] using hx
          have hx := Hid.mk' hx
          go_wp2_with (first | (go_at_call 70; refine (l1In_calls _ _ _ _).mono ?_; rintro e w' ⟨rfl, rfl⟩))
          go_round
          case rel => exact ⟨k + 1, by omega, by go_num, e1⟩
          case measure => simp [intOf]; omega
        · have e1 := Hid.mk' (stepOk_cases hE (allTo_not hlt (Bool.eq_false_iff.2 hx)))
          have hx := Hid.mk' hx
          go_wp2_with (first | (go_at_call 70; refine (l1In_calls _ _ _ _).mono ?_; rintro e w' ⟨rfl, rfl⟩))
          all_goals first
            | (go_ret; exact ⟨by rw [e1.out]; rfl, below_st ((Below.refl _ _).alloc (Nat.le_refl _) _) hb1⟩)
            | (exfalso; refine hx.out ?_; obtain ⟨q3, q4⟩ := ‹_ ∧ _›; simp at q4; simp [caseOk, q4]; omega)
      · obtain rfl : k = x.Cases.length := by omega
        have e1 := Hid.mk' (stepOk_yes hE hP.out hN hO'.out (allTo_end hA2))
        go_wp2
        go_ret
        exact ⟨by rw [e1.out]; rfl, below_st ((Below.refl _ _).alloc (Nat.le_refl _) _) hb1⟩

set_option maxRecDepth 100000 in
set_option maxHeartbeats 4000000 in
theorem sValidAction_calls {tS tC : Nat} (x : Action) (w : World) {vs : List Value} (h : reps w (x.c tS tC) vs) (hz : x.Sm) :
    Calls Try.prog 45 #[.agg vs.toArray] w fun e w' => e = .returned (.bool (actionOk x)) ∧ Below w.heap.size w w' := by
  obtain ⟨v1, rfl, h1⟩ := Action.ropen h
  obtain ⟨A1, c1, rfl, hc1, hn1⟩ := rep_len h1
  have h1 := Asd.mk h1
  clear h
  by_cases p1 : inB x.Cost 1 20 = true
  rotate_left
  · have e1 := Hid.mk' (show actionOk x = false by simp [actionOk, p1])
    go_enter Try.func45, Try.ntmps45
    go_wp2_with (first | (go_at_call 70; refine (l1In_calls _ _ _ _).mono ?_; rintro e w' ⟨rfl, rfl⟩))
    go_ret
    exact ⟨by rw [e1.out]; rfl, (Below.refl _ _).alloc (Nat.le_refl _) _⟩
  by_cases p2 : inB x.Steps.length 1 20 = true
  rotate_left
  · have e1 := Hid.mk' (show actionOk x = false by simp [actionOk, p2])
    go_enter Try.func45, Try.ntmps45
    go_wp2_with (first | (go_at_call 70; refine (l1In_calls _ _ _ _).mono ?_; rintro e w' ⟨rfl, rfl⟩))
    go_ret
    exact ⟨by rw [e1.out]; rfl, (Below.refl _ _).alloc (Nat.le_refl _) _⟩
  have hs : x.Steps.length ≤ 20 := by simp [inB] at p2; omega
  go_enter Try.func45, Try.ntmps45
  go_wp2_with (first | (go_at_call 70; refine (l1In_calls _ _ _ _).mono ?_; rintro e w' ⟨rfl, rfl⟩))
  go_loopw [4] (fun i wr => ∃ k : Nat, k ≤ x.Steps.length ∧ i = .int .i64 k ∧ allTo (stepOkN x.Steps.length) x.Steps k ∧ Below w.heap.size w wr ∧ w.heap.size < wr.heap.size ∧ wr.cell? ⟨w.heap.size, 1, none⟩ = some (.slice A1 x.Steps.length c1)) (fun i _ => x.Steps.length - (intOf i).toNat)
  case atStart => exact ⟨0, by omega, rfl, allTo_zero _ _, (Below.refl _ _).alloc (Nat.le_refl _) _, by simp, by go_simp⟩
  case round =>
    obtain ⟨k, hk, rfl, hA2, hbr, hsz, hcl⟩ := hrel
    by_cases hlt : k < x.Steps.length
    · obtain ⟨a, c', v0, v2, he, k0, k1, k2, k3, k4, k5, k6, k7, h0, h2, hr⟩ := Step.elem (h1.out.below hbr) hlt
      cases he
      obtain ⟨B0, b0, rfl, _, _⟩ := rep_len h0
      obtain ⟨B2, b2, rfl, _, _⟩ := rep_len h2
      have hr := Asd.mk hr
      clear h0 h2
      have hsm := hz _ (List.getElem_mem hlt)
      by_cases hx : stepOk x.Steps[k] x.Steps.length = true
      · have e1 := allTo_succ (p := stepOkN x.Steps.length) hA2 hlt hx
        go_wp2_with (first | (go_at_call 80; refine (l1StepOk_calls x.Steps[k] x.Steps.length _ hr.out (by omega) (by omega) hsm).mono ?_; rintro e w2 ⟨rfl, hb2⟩))
        go_roundw
        case rel => exact ⟨k + 1, by omega, by go_num, e1, below_st hbr hb2, by have := hb2.size; omega, by rw [hb2.cell (by simp; omega)]; exact hcl⟩
        case measure => simp [intOf]; omega
      · have e1 := Hid.mk' (show actionOk x = false by simp only [actionOk]; rw [allTo_not (p := stepOkN x.Steps.length) hlt (Bool.eq_false_iff.2 hx)]; simp)
        go_wp2_with (first | (go_at_call 80; refine (l1StepOk_calls x.Steps[k] x.Steps.length _ hr.out (by omega) (by omega) hsm).mono ?_; rintro e w2 ⟨rfl, hb2⟩))
        go_ret
        exact ⟨by rw [e1.out]; rfl, below_st hbr hb2⟩
    · obtain rfl : k = x.Steps.length := by omega
      have e1 := Hid.mk' (show actionOk x = true by simp only [actionOk, p1, p2, allTo_end hA2]; rfl)
      go_wp2
      go_ret
      exact ⟨by rw [e1.out]; rfl, hbr⟩

end Go.Proofs.Ytmjfkjdfmpileaa.M
