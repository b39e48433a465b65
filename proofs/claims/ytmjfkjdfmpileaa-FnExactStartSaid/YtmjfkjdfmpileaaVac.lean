/- Contracts: ValidAction. -/
import Derived.Test.YtmjfkjdfmpileaaStp
set_option linter.unusedVariables false
set_option linter.unusedSimpArgs false
namespace Go.Proofs.Ytmjfkjdfmpileaa.M
open Go.RowKit

set_option maxRecDepth 100000 in
set_option maxHeartbeats 4000000 in
theorem ValidAction_calls {tS tC : Nat} (x : Action) (w : World) {vs : List Value} (h : reps w (x.c tS tC) vs) (hz : x.Sm) :
    Calls Try.prog 48 #[.agg vs.toArray] w fun e w' => e = .returned (.bool (actionOk x)) ∧ Below w.heap.size w w' := by
  obtain ⟨v1, rfl, h1⟩ := Action.ropen h
  obtain ⟨A1, c1, rfl, hc1, hn1⟩ := rep_len h1
  have h1 := Asd.mk h1
  clear h
  by_cases p1 : inB x.Cost 1 20 = true
  rotate_left
  · have e1 := Hid.mk' (show actionOk x = false by simp [actionOk, p1])
    go_enter Try.func48, Try.ntmps48
    go_wp2_with (first | (go_at_call 71; refine (in_calls _ _ _ _).mono ?_; rintro e w' ⟨rfl, rfl⟩))
    go_ret
    exact ⟨by rw [e1.out]; rfl, (Below.refl _ _).alloc (Nat.le_refl _) _⟩
  by_cases p2 : inB x.Steps.length 1 20 = true
  rotate_left
  · have e1 := Hid.mk' (show actionOk x = false by simp [actionOk, p2])
    go_enter Try.func48, Try.ntmps48
    go_wp2_with (first | (go_at_call 71; refine (in_calls _ _ _ _).mono ?_; rintro e w' ⟨rfl, rfl⟩))
    go_ret
    exact ⟨by rw [e1.out]; rfl, (Below.refl _ _).alloc (Nat.le_refl _) _⟩
  have hs : x.Steps.length ≤ 20 := by simp [inB] at p2; omega
  go_enter Try.func48, Try.ntmps48
  go_wp2_with (first | (go_at_call 71; refine (in_calls _ _ _ _).mono ?_; rintro e w' ⟨rfl, rfl⟩))
  go_loopw [19] (fun i wr => ∃ k : Nat, k ≤ x.Steps.length ∧ i = .int .i64 k ∧ allTo (stepOkN x.Steps.length) x.Steps k ∧ Below w.heap.size w wr ∧ w.heap.size < wr.heap.size ∧ wr.cell? ⟨w.heap.size, 1, none⟩ = some (.slice A1 x.Steps.length c1)) (fun i _ => x.Steps.length - (intOf i).toNat)
  case atStart => exact ⟨0, by omega, rfl, allTo_zero _ _, (Below.refl _ _).alloc (Nat.le_refl _) _, by simp, by go_simp⟩
  case round =>
    obtain ⟨k, hk, rfl, hA2, hbr, hsz, hcl⟩ := hrel
    by_cases hlt : k < x.Steps.length
    · obtain ⟨a, c', v0, v2, he, k0, k1, k2, k3, k4, k5, k6, k7, h0, h2, hr⟩ := Step.elem (h1.out.below hbr) hlt
      cases he
      obtain ⟨B0, b0, rfl, _, _⟩ := rep_len h0
      obtain ⟨B2, b2, rfl, _, _⟩ := rep_len h2
      have hr := Asd.mk hr
      clear h0 h2
      have hsm := hz _ (List.getElem_mem hlt)
      by_cases hx : stepOk x.Steps[k] x.Steps.length = true
      · have e1 := allTo_succ (p := stepOkN x.Steps.length) hA2 hlt hx
        go_wp2_with (first | (go_at_call 82; refine (validStep_calls x.Steps[k] x.Steps.length _ (hr.out.below ((Below.refl _ _).alloc (Nat.le_refl _) _)) (by omega) (by omega) hsm).mono ?_; rintro e w2 ⟨rfl, hb2⟩))
        go_roundw
        case rel => exact ⟨k + 1, by omega, by go_num, e1, (hbr.alloc hbr.size _).trans (hb2.mono (by simp; omega)), by have := hb2.size; simp at this; omega, by rw [hb2.cell (by simp; omega)]; go_simp⟩
        case measure => simp [intOf]; omega
      · have e1 := Hid.mk' (show actionOk x = false by simp only [actionOk]; rw [allTo_not (p := stepOkN x.Steps.length) hlt (Bool.eq_false_iff.2 hx)]; simp)
        go_wp2_with (first | (go_at_call 82; refine (validStep_calls x.Steps[k] x.Steps.length _ (hr.out.below ((Below.refl _ _).alloc (Nat.le_refl _) _)) (by omega) (by omega) hsm).mono ?_; rintro e w2 ⟨rfl, hb2⟩))
        go_ret
        exact ⟨by rw [e1.out]; rfl, (hbr.alloc hbr.size _).trans (hb2.mono (by simp; omega))⟩
    · obtain rfl : k = x.Steps.length := by omega
      have e1 := Hid.mk' (show actionOk x = true by simp only [actionOk, p1, p2, allTo_end hA2]; rfl)
      go_wp2
      go_ret
      exact ⟨by rw [e1.out]; rfl, hbr⟩

end Go.Proofs.Ytmjfkjdfmpileaa.M
