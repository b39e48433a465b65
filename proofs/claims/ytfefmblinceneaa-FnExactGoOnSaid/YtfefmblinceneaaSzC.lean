/- Contracts: the laws' own sizes. -/
import Derived.Test.YtfefmblinceneaaSzA
set_option linter.unusedVariables false
set_option linter.unusedSimpArgs false
namespace Go.Proofs.Ytfefmblinceneaa.M
open Go.RowKit

def Answer.bk (x : Answer) : Nat := x.Text.size
def Answer.bs (xs : List Answer) : Nat := bsOf Answer.bk xs
def Answer.Zm (x : Answer) : Prop := x.Text.size ≤ 9223372036854775807
set_option maxRecDepth 100000 in
set_option maxHeartbeats 2000000 in
theorem szAnswer_calls (x : Answer) (left : Int) (w : World) {vs : List Value} (h : reps w (x.c) vs) (g0 : 0 ≤ left) (g1 : left ≤ 1048576) (hz : x.Zm) :
    Calls Try.prog 35 #[.agg vs.toArray, .int .i64 left] w fun e w' => e = .returned (.int .i64 (szI x.bk left)) ∧ Below w.heap.size w w' := by
  unfold Answer.Zm at hz
  have z0 := hz
  obtain rfl := Answer.ropen h
  clear h
  by_cases q0 : ((x.Text.size : Nat) : Int) ≤ left
  rotate_left
  · have e1 := Hid.mk' (show szI x.bk left = -1 from szI_no (by unfold Answer.bk; omega))
    go_enter Try.func35, Try.ntmps35
    go_wp2
    go_ret
    exact ⟨by rw [e1.out]; rfl, by first | exact (Below.refl _ _).alloc (Nat.le_refl _) _ | exact HB.out⟩
  have e1 := Hid.mk' (show szI x.bk left = left - (x.Text.size : Nat) from by rw [szI_yes (by unfold Answer.bk; omega)]; unfold Answer.bk; omega)
  go_enter Try.func35, Try.ntmps35
  go_wp2
  go_ret
  exact ⟨by rw [e1.out]; rfl, by first | exact (Below.refl _ _).alloc (Nat.le_refl _) _ | exact HB.out⟩
set_option maxRecDepth 100000 in
set_option maxHeartbeats 2000000 in
theorem szAnswerS_calls {tAnswer : Nat} (xs : List Answer) (left : Int) (v : Value) (w : World) (h : rep w (AnswersT tAnswer xs) v) (g0 : 0 ≤ left) (g1 : left ≤ 1048576) (hz : ∀ x ∈ xs, x.Zm) :
    Calls Try.prog 17 #[v, .int .i64 left] w fun e w' => e = .returned (.int .i64 (szI (Answer.bs xs) left)) ∧ Below w.heap.size w w' := by
  obtain ⟨A, c, rfl, hc, hn⟩ := rep_len h
  have h := Asd.mk h
  by_cases q0 : (xs.length : Int) ≤ left
  rotate_left
  · have e1 := Hid.mk' (show szI (Answer.bs xs) left = -1 from szI_no (by unfold Answer.bs bsOf; omega))
    go_enter Try.func17, Try.ntmps17
    go_wp2
    go_ret
    exact ⟨by rw [e1.out]; rfl, Below.refl _ _⟩
  go_enter Try.func17, Try.ntmps17
  go_wp2
  go_loopw [1, 5] (fun l i wr => ∃ (k : Nat) (L : Int), k ≤ xs.length ∧ i = .int .i64 k ∧ l = .int .i64 L ∧ 0 ≤ L ∧ L ≤ 1048576 ∧ szTo Answer.bk xs left k L ∧ Below w.heap.size w wr) (fun _ i _ => xs.length - (intOf i).toNat)
  case atStart => exact ⟨0, _, by omega, rfl, rfl, by omega, by omega, szTo_zero _ _ _, Below.refl _ _⟩
  case round =>
    obtain ⟨k, L, hk, rfl, rfl, hL0, hL1, hA, hbr⟩ := hrel
    by_cases hlt : k < xs.length
    · obtain ⟨a, c', he, k0, k1, hr⟩ := Answer.elem (h.out.below hbr) hlt
      cases he
      have hr := Asd.mk hr
      have hsm := hz _ (List.getElem_mem hlt)
      by_cases q1 : ((xs[k].bk : Nat) : Int) ≤ L
      · have e1 := szTo_succ hA hlt
        have e2 : szI xs[k].bk L = L - (xs[k].bk : Nat) := szI_yes q1
        go_wp2_with (first | (go_at_call 35; refine (szAnswer_calls xs[k] L _ hr.out hL0 hL1 hsm).mono ?_; rintro e w2 ⟨rfl, hb2⟩))
        go_roundw
        case rel => exact ⟨k + 1, _, by omega, by go_num, rfl, by omega, by omega, e1, below_st hbr hb2⟩
        case measure => simp [intOf]; omega
      · have e1 := Hid.mk' (szTo_no hA hlt q1)
        have e2 : szI xs[k].bk L = -1 := szI_no q1
        go_wp2_with (first | (go_at_call 35; refine (szAnswer_calls xs[k] L _ hr.out hL0 hL1 hsm).mono ?_; rintro e w2 ⟨rfl, hb2⟩))
        go_ret
        exact ⟨by rw [Answer.bs, e1.out]; rfl, below_st hbr hb2⟩
    · obtain rfl : k = xs.length := by omega
      have e1 := Hid.mk' (szTo_end hA hL0)
      go_wp2
      go_ret
      exact ⟨by rw [Answer.bs, e1.out]; rfl, hbr⟩
end Go.Proofs.Ytfefmblinceneaa.M
