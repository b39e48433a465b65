/- Contracts: steps and actions. -/
import Derived.Test.YtmjfkjdfmpileaaAct
set_option linter.unusedVariables false
set_option linter.unusedSimpArgs false
namespace Go.Proofs.Ytmjfkjdfmpileaa.M
open Go.RowKit

set_option maxRecDepth 100000 in
set_option maxHeartbeats 4000000 in
theorem validStep_calls {tc : Nat} (x : Step) (n : Int) (w : World) {vs : List Value} (h : reps w (x.c tc) vs) (hn0 : 0 ≤ n) (hn1 : n ≤ 9223372036854775807) (hz : x.Sm) :
    Calls Try.prog 82 #[.agg vs.toArray, .int .i64 n] w fun e w' => e = .returned (.bool (stepOk x n)) ∧ Below w.heap.size w w' := by
  unfold Step.Sm at hz
  obtain ⟨v0, v2, rfl, h0, h2⟩ := Step.ropen h
  obtain ⟨A0, c0, rfl, hc0, hn0⟩ := rep_len h0
  obtain ⟨A2, c2, rfl, hc2, hn2⟩ := rep_len h2
  by_cases hE : x.End = true
  · go_enter Try.func82, Try.ntmps82
    go_wp2
    all_goals go_ret
    all_goals exact ⟨by first | (simp [stepOk, endOk, *]; done) | (simp [stepOk, endOk, *]; intros; omega), (Below.refl _ _).alloc (Nat.le_refl _) _⟩
  have hE := Bool.eq_false_iff.2 hE
  by_cases hP : preOk x n = true
  rotate_left
  · have e1 := Hid.mk' (stepOk_pre hE hP)
    have hP := Hid.mk' hP
    go_enter Try.func82, Try.ntmps82
    go_wp2_with (first | (go_at_call 71; refine (in_calls _ _ _ _).mono ?_; rintro e w' ⟨rfl, rfl⟩))
    all_goals first
      | (go_ret; exact ⟨by rw [e1.out]; rfl, (Below.refl _ _).alloc (Nat.le_refl _) _⟩)
      | (go_ret; exfalso; refine hP.out ?_; rcases ‹(_ ∨ _) ∨ _› with (h | h) | h <;> first | omega | (simp at h; simp [preOk, *]))
      | (exfalso; refine hP.out ?_; obtain ⟨⟨q1, q2⟩, q3⟩ := ‹(_ ∧ _) ∧ _›; have q4 : x.Asks.length ≤ 5 := by omega
         have q5 : x.Cases.length ≤ 5 := by omega
         simp at q3; simp [preOk, *]; done)
      | (exfalso; refine hP.out ?_; rcases ‹(_ ∨ _) ∨ _› with (h | h) | h <;> first | omega | (simp at h; simp [preOk, *]))
  obtain ⟨hB, hG, hAl, hCl, hEl, hFa⟩ := preOk_iff hP
  have hP := Hid.mk' hP
  have hb := (Below.refl w.heap.size w).alloc (Nat.le_refl _) (.cells #[.slice A0 x.Asks.length c0, .int .i64 x.On, .slice A2 x.Cases.length c2, .int .i64 x.Else, .int .i64 x.Fall, .bool false, .bool false, .string x.Give] 108)
  have h0' := h0.below hb
  go_enter Try.func82, Try.ntmps82
  go_wp2_with (first | (go_at_call 71; refine (in_calls _ _ _ _).mono ?_; rintro e w' ⟨rfl, rfl⟩))
  go_loop [80] (fun i => ∃ k : Nat, k ≤ x.Asks.length ∧ i = .int .i64 k ∧ nmTo x.Asks k) (fun i => x.Asks.length - (intOf i).toNat)
  case atStart => exact ⟨0, by omega, rfl, nmTo_zero _⟩
  case round =>
    obtain ⟨k, hk, rfl, hA⟩ := hrel
    by_cases hlt : k < x.Asks.length
    · obtain ⟨a, c', he, hcell⟩ := str_elem h0' hlt
      cases he
      have ht := rep_take h0' (fun _ => rfl) hk
      by_cases hx : nameOk x.Asks[k] = true
      · by_cases hy : x.Asks[k] ∈ x.Asks.take k
        · have e1 := Hid.mk' (stepOk_names (n := n) hE (namesOk_not hlt (.inr hy)))
          go_wp2_with (first | (go_at_call 38; refine (goodName_calls _ _).mono ?_; rintro e w' ⟨rfl, rfl⟩) | (go_at_call 93; refine (Contains_calls _ _ _ _ ht).mono ?_; rintro e w' ⟨rfl, rfl⟩))
          go_ret
          exact ⟨by rw [e1.out]; rfl, (Below.refl _ _).alloc (Nat.le_refl _) _⟩
        · have e1 := nmTo_succ hA hlt hx hy
          go_wp2_with (first | (go_at_call 38; refine (goodName_calls _ _).mono ?_; rintro e w' ⟨rfl, rfl⟩) | (go_at_call 93; refine (Contains_calls _ _ _ _ ht).mono ?_; rintro e w' ⟨rfl, rfl⟩))
          go_round
          case rel => exact ⟨k + 1, by omega, by go_num, e1⟩
          case measure => simp [intOf]; omega
      · have hx := Bool.eq_false_iff.2 hx
        have e1 := Hid.mk' (stepOk_names (n := n) hE (namesOk_not hlt (.inl hx)))
        go_wp2_with (first | (go_at_call 38; refine (goodName_calls _ _).mono ?_; rintro e w' ⟨rfl, rfl⟩))
        go_ret
        exact ⟨by rw [e1.out]; rfl, (Below.refl _ _).alloc (Nat.le_refl _) _⟩
    · obtain rfl : k = x.Asks.length := by omega
      have hA := Hid.mk' ((namesOk_iff _).2 hA)
      by_cases hO : onOk x = true
      rotate_left
      · have e1 := Hid.mk' (stepOk_on (n := n) hE (Bool.eq_false_iff.2 hO))
        have hO := Hid.mk' hO
        go_wp2_with (first | (go_at_call 71; refine (in_calls _ _ _ _).mono ?_; rintro e w' ⟨rfl, rfl⟩))
        all_goals try (go_ret; exact ⟨by rw [e1.out]; rfl, (Below.refl _ _).alloc (Nat.le_refl _) _⟩)
        all_goals (exfalso; refine hO.out ?_; simp_all [onOk]; done)
      have hc : (x.Asks.length = 0 ∧ x.On = 0) ∨ (0 < x.Asks.length ∧ inB x.On 0 (x.Asks.length - 1) = true) := by
        unfold onOk at hO
        by_cases h : x.Asks = []
        · left; simp [h] at hO ⊢; exact hO
        · right; simp [h] at hO; exact ⟨List.length_pos_iff.2 h, hO⟩
      have hO' := Hid.mk' hO
      clear hO
      have hc : (((x.Asks.length : Int) == 0) = true ∧ x.Asks = [] ∧ x.On = 0) ∨ (((x.Asks.length : Int) == 0) = false ∧ 0 < x.Asks.length ∧ inB x.On 0 (x.Asks.length - 1) = true) := hc.imp (fun h => ⟨by simp [h.1], List.eq_nil_of_length_eq_zero h.1, h.2⟩) (fun h => ⟨by simp; exact List.length_pos_iff.1 h.1, h⟩)
      rcases hc with ⟨q0, q1, q2⟩ | ⟨q0, q1, q2⟩
      all_goals
        go_wp2_with (first | (go_at_call 71; refine (in_calls _ _ _ _).mono ?_; rintro e w' ⟨rfl, rfl⟩))
        go_loopw [125] (fun i wr => ∃ k : Nat, k ≤ x.Cases.length ∧ i = .int .i64 k ∧ allTo (caseOk n) x.Cases k ∧ Below w.heap.size w wr) (fun i _ => x.Cases.length - (intOf i).toNat)
        case atStart => exact ⟨0, by omega, rfl, allTo_zero _ _, (Below.refl _ _).alloc (Nat.le_refl _) _⟩
        case round =>
          obtain ⟨k, hk, rfl, hA2, hbr⟩ := hrel
          by_cases hlt : k < x.Cases.length
          · obtain ⟨a, c', he, k0, k1, _⟩ := Case.elem (h2.below hbr) hlt
            cases he
            by_cases hx : caseOk n x.Cases[k] = true
            · have e1 := allTo_succ hA2 hlt hx
              obtain ⟨r1, r2⟩ : x.Cases[k].Text.size ≤ 200 ∧ inB x.Cases[k].Goto 0 (n - 1) = true := by simpa [caseOk] using hx
              have hx := Hid.mk' hx
              go_wp2_with (first | (go_at_call 71; refine (in_calls _ _ _ _).mono ?_; rintro e w' ⟨rfl, rfl⟩))
              go_roundw
              case rel => exact ⟨k + 1, by omega, by go_num, e1, hbr.alloc hbr.size _⟩
              case measure => simp [intOf]; omega
            · have e1 := Hid.mk' (stepOk_cases hE (allTo_not hlt (Bool.eq_false_iff.2 hx)))
              have hx := Hid.mk' hx
              go_wp2_with (first | (go_at_call 71; refine (in_calls _ _ _ _).mono ?_; rintro e w' ⟨rfl, rfl⟩))
              all_goals first
                | (go_ret; exact ⟨by rw [e1.out]; rfl, hbr.alloc hbr.size _⟩)
                | (exfalso; refine hx.out ?_; obtain ⟨q3, q4⟩ := ‹_ ∧ _›; simp at q4; simp [caseOk, q4]; omega)
          · obtain rfl : k = x.Cases.length := by omega
            have e1 := Hid.mk' (stepOk_yes hE hP.out hA.out hO'.out (allTo_end hA2))
            go_wp2
            go_ret
            exact ⟨by rw [e1.out]; rfl, hbr⟩

end Go.Proofs.Ytmjfkjdfmpileaa.M
