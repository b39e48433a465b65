/- Contracts: the laws' own sizes. -/
import Derived.Test.YtmjfkjdfmpileaaSzS
import Derived.Test.YtmjfkjdfmpileaaAct
set_option linter.unusedVariables false
set_option linter.unusedSimpArgs false
namespace Go.Proofs.Ytmjfkjdfmpileaa.M
open Go.RowKit

def Case.bk (x : Case) : Nat := x.Text.size
def Case.bs (xs : List Case) : Nat := bsOf Case.bk xs
def Case.Zm (x : Case) : Prop := x.Text.size ≤ 9223372036854775807
def Step.bk (x : Step) : Nat := bkS x.Asks + Case.bs x.Cases + x.Give.size
def Step.bs (xs : List Step) : Nat := bsOf Step.bk xs
def Step.Zm (x : Step) : Prop := SmS x.Asks ∧ (∀ y ∈ x.Cases, y.Zm) ∧ x.Give.size ≤ 9223372036854775807
def Action.bk (x : Action) : Nat := Step.bs x.Steps
def Action.bs (xs : List Action) : Nat := bsOf Action.bk xs
def Action.Zm (x : Action) : Prop := (∀ y ∈ x.Steps, y.Zm)
set_option maxRecDepth 100000 in
set_option maxHeartbeats 2000000 in
theorem szCase_calls (x : Case) (left : Int) (w : World) {vs : List Value} (h : reps w (x.c) vs) (g0 : 0 ≤ left) (g1 : left ≤ 1048576) (hz : x.Zm) :
    Calls Try.prog 112 #[.agg vs.toArray, .int .i64 left] w fun e w' => e = .returned (.int .i64 (szI x.bk left)) ∧ Below w.heap.size w w' := by
  unfold Case.Zm at hz
  have z0 := hz
  obtain rfl := Case.ropen h
  clear h
  by_cases q0 : ((x.Text.size : Nat) : Int) ≤ left
  rotate_left
  · have e1 := Hid.mk' (show szI x.bk left = -1 from szI_no (by unfold Case.bk; omega))
    go_enter Try.func112, Try.ntmps112
    go_wp2
    go_ret
    exact ⟨by rw [e1.out]; rfl, by first | exact (Below.refl _ _).alloc (Nat.le_refl _) _ | exact HB.out⟩
  have e1 := Hid.mk' (show szI x.bk left = left - (x.Text.size : Nat) from by rw [szI_yes (by unfold Case.bk; omega)]; unfold Case.bk; omega)
  go_enter Try.func112, Try.ntmps112
  go_wp2
  go_ret
  exact ⟨by rw [e1.out]; rfl, by first | exact (Below.refl _ _).alloc (Nat.le_refl _) _ | exact HB.out⟩
set_option maxRecDepth 100000 in
set_option maxHeartbeats 2000000 in
theorem szCaseS_calls {tCase : Nat} (xs : List Case) (left : Int) (v : Value) (w : World) (h : rep w (CasesT tCase xs) v) (g0 : 0 ≤ left) (g1 : left ≤ 1048576) (hz : ∀ x ∈ xs, x.Zm) :
    Calls Try.prog 106 #[v, .int .i64 left] w fun e w' => e = .returned (.int .i64 (szI (Case.bs xs) left)) ∧ Below w.heap.size w w' := by
  obtain ⟨A, c, rfl, hc, hn⟩ := rep_len h
  have h := Asd.mk h
  by_cases q0 : (xs.length : Int) ≤ left
  rotate_left
  · have e1 := Hid.mk' (show szI (Case.bs xs) left = -1 from szI_no (by unfold Case.bs bsOf; omega))
    go_enter Try.func106, Try.ntmps106
    go_wp2
    go_ret
    exact ⟨by rw [e1.out]; rfl, Below.refl _ _⟩
  go_enter Try.func106, Try.ntmps106
  go_wp2
  go_loopw [1, 5] (fun l i wr => ∃ (k : Nat) (L : Int), k ≤ xs.length ∧ i = .int .i64 k ∧ l = .int .i64 L ∧ 0 ≤ L ∧ L ≤ 1048576 ∧ szTo Case.bk xs left k L ∧ Below w.heap.size w wr) (fun _ i _ => xs.length - (intOf i).toNat)
  case atStart => exact ⟨0, _, by omega, rfl, rfl, by omega, by omega, szTo_zero _ _ _, Below.refl _ _⟩
  case round =>
    obtain ⟨k, L, hk, rfl, rfl, hL0, hL1, hA, hbr⟩ := hrel
    by_cases hlt : k < xs.length
    · obtain ⟨a, c', he, k0, k1, hr⟩ := Case.elem (h.out.below hbr) hlt
      cases he
      have hr := Asd.mk hr
      have hsm := hz _ (List.getElem_mem hlt)
      by_cases q1 : ((xs[k].bk : Nat) : Int) ≤ L
      · have e1 := szTo_succ hA hlt
        have e2 : szI xs[k].bk L = L - (xs[k].bk : Nat) := szI_yes q1
        go_wp2_with (first | (go_at_call 112; refine (szCase_calls xs[k] L _ hr.out hL0 hL1 hsm).mono ?_; rintro e w2 ⟨rfl, hb2⟩))
        go_roundw
        case rel => exact ⟨k + 1, _, by omega, by go_num, rfl, by omega, by omega, e1, below_st hbr hb2⟩
        case measure => simp [intOf]; omega
      · have e1 := Hid.mk' (szTo_no hA hlt q1)
        have e2 : szI xs[k].bk L = -1 := szI_no q1
        go_wp2_with (first | (go_at_call 112; refine (szCase_calls xs[k] L _ hr.out hL0 hL1 hsm).mono ?_; rintro e w2 ⟨rfl, hb2⟩))
        go_ret
        exact ⟨by rw [Case.bs, e1.out]; rfl, below_st hbr hb2⟩
    · obtain rfl : k = xs.length := by omega
      have e1 := Hid.mk' (szTo_end hA hL0)
      go_wp2
      go_ret
      exact ⟨by rw [Case.bs, e1.out]; rfl, hbr⟩
set_option maxRecDepth 100000 in
set_option maxHeartbeats 2000000 in
theorem szStep_calls {tCase : Nat} (x : Step) (left : Int) (w : World) {vs : List Value} (h : reps w (x.c tCase) vs) (g0 : 0 ≤ left) (g1 : left ≤ 1048576) (hz : x.Zm) :
    Calls Try.prog 99 #[.agg vs.toArray, .int .i64 left] w fun e w' => e = .returned (.int .i64 (szI x.bk left)) ∧ Below w.heap.size w w' := by
  unfold Step.Zm at hz
  obtain ⟨z0, z1, z2⟩ := hz
  obtain ⟨v0, v2, rfl, h0, h2⟩ := Step.ropen h
  obtain ⟨A0, c0, rfl, _, _⟩ := rep_len h0
  have h0 := Asd.mk h0
  obtain ⟨A2, c2, rfl, _, _⟩ := rep_len h2
  have h2 := Asd.mk h2
  clear h
  by_cases q0 : ((bkS x.Asks : Nat) : Int) ≤ left
  rotate_left
  · have e1 := Hid.mk' (show szI x.bk left = -1 from szI_no (by unfold Step.bk; omega))
    have s0 : szI (bkS x.Asks) (left) = -1 := szI_no q0
    go_enter Try.func99, Try.ntmps99
    go_wp2_with (first | (go_at_call 23; refine (szStringS_calls x.Asks _ _ _ (h0.out.below (by first | exact (Below.refl _ _).alloc (Nat.le_refl _) _ | exact HB.out)) (by omega) (by omega) z0).mono ?_; rintro e w1 ⟨rfl, hb1⟩; obtain ⟨hcx, hfx⟩ := bcell hb1; have hzz : w.heap.size < w1.heap.size := (by have := hb1.size; (try simp at this); omega); have HB := Asd.mk (show Below w.heap.size w w1 from by first | exact below_st ((Below.refl _ _).alloc (Nat.le_refl _) _) hb1 | exact below_st HB.out hb1)) | (go_at_call 106; refine (szCaseS_calls x.Cases _ _ _ (h2.out.below (by first | exact (Below.refl _ _).alloc (Nat.le_refl _) _ | exact HB.out)) (by omega) (by omega) z1).mono ?_; rintro e w1 ⟨rfl, hb1⟩; obtain ⟨hcx, hfx⟩ := bcell hb1; have hzz : w.heap.size < w1.heap.size := (by have := hb1.size; (try simp at this); omega); have HB := Asd.mk (show Below w.heap.size w w1 from by first | exact below_st ((Below.refl _ _).alloc (Nat.le_refl _) _) hb1 | exact below_st HB.out hb1)))
    go_ret
    exact ⟨by rw [e1.out]; rfl, by first | exact (Below.refl _ _).alloc (Nat.le_refl _) _ | exact HB.out⟩
  have s0 : szI (bkS x.Asks) (left) = left - (bkS x.Asks : Nat) := szI_yes q0
  by_cases q1 : ((Case.bs x.Cases : Nat) : Int) ≤ left - (bkS x.Asks : Nat)
  rotate_left
  · have e1 := Hid.mk' (show szI x.bk left = -1 from szI_no (by unfold Step.bk; omega))
    have s1 : szI (Case.bs x.Cases) (left - (bkS x.Asks : Nat)) = -1 := szI_no q1
    go_enter Try.func99, Try.ntmps99
    go_wp2_with (first | (go_at_call 23; refine (szStringS_calls x.Asks _ _ _ (h0.out.below (by first | exact (Below.refl _ _).alloc (Nat.le_refl _) _ | exact HB.out)) (by omega) (by omega) z0).mono ?_; rintro e w1 ⟨rfl, hb1⟩; obtain ⟨hcx, hfx⟩ := bcell hb1; have hzz : w.heap.size < w1.heap.size := (by have := hb1.size; (try simp at this); omega); have HB := Asd.mk (show Below w.heap.size w w1 from by first | exact below_st ((Below.refl _ _).alloc (Nat.le_refl _) _) hb1 | exact below_st HB.out hb1)) | (go_at_call 106; refine (szCaseS_calls x.Cases _ _ _ (h2.out.below (by first | exact (Below.refl _ _).alloc (Nat.le_refl _) _ | exact HB.out)) (by omega) (by omega) z1).mono ?_; rintro e w1 ⟨rfl, hb1⟩; obtain ⟨hcx, hfx⟩ := bcell hb1; have hzz : w.heap.size < w1.heap.size := (by have := hb1.size; (try simp at this); omega); have HB := Asd.mk (show Below w.heap.size w w1 from by first | exact below_st ((Below.refl _ _).alloc (Nat.le_refl _) _) hb1 | exact below_st HB.out hb1)))
    go_ret
    exact ⟨by rw [e1.out]; rfl, by first | exact (Below.refl _ _).alloc (Nat.le_refl _) _ | exact HB.out⟩
  have s1 : szI (Case.bs x.Cases) (left - (bkS x.Asks : Nat)) = left - (bkS x.Asks : Nat) - (Case.bs x.Cases : Nat) := szI_yes q1
  by_cases q2 : ((x.Give.size : Nat) : Int) ≤ left - (bkS x.Asks : Nat) - (Case.bs x.Cases : Nat)
  rotate_left
  · have e1 := Hid.mk' (show szI x.bk left = -1 from szI_no (by unfold Step.bk; omega))
    go_enter Try.func99, Try.ntmps99
    go_wp2_with (first | (go_at_call 23; refine (szStringS_calls x.Asks _ _ _ (h0.out.below (by first | exact (Below.refl _ _).alloc (Nat.le_refl _) _ | exact HB.out)) (by omega) (by omega) z0).mono ?_; rintro e w1 ⟨rfl, hb1⟩; obtain ⟨hcx, hfx⟩ := bcell hb1; have hzz : w.heap.size < w1.heap.size := (by have := hb1.size; (try simp at this); omega); have HB := Asd.mk (show Below w.heap.size w w1 from by first | exact below_st ((Below.refl _ _).alloc (Nat.le_refl _) _) hb1 | exact below_st HB.out hb1)) | (go_at_call 106; refine (szCaseS_calls x.Cases _ _ _ (h2.out.below (by first | exact (Below.refl _ _).alloc (Nat.le_refl _) _ | exact HB.out)) (by omega) (by omega) z1).mono ?_; rintro e w1 ⟨rfl, hb1⟩; obtain ⟨hcx, hfx⟩ := bcell hb1; have hzz : w.heap.size < w1.heap.size := (by have := hb1.size; (try simp at this); omega); have HB := Asd.mk (show Below w.heap.size w w1 from by first | exact below_st ((Below.refl _ _).alloc (Nat.le_refl _) _) hb1 | exact below_st HB.out hb1)))
    go_ret
    exact ⟨by rw [e1.out]; rfl, by first | exact (Below.refl _ _).alloc (Nat.le_refl _) _ | exact HB.out⟩
  have e1 := Hid.mk' (show szI x.bk left = left - (bkS x.Asks : Nat) - (Case.bs x.Cases : Nat) - (x.Give.size : Nat) from by rw [szI_yes (by unfold Step.bk; omega)]; unfold Step.bk; omega)
  go_enter Try.func99, Try.ntmps99
  go_wp2_with (first | (go_at_call 23; refine (szStringS_calls x.Asks _ _ _ (h0.out.below (by first | exact (Below.refl _ _).alloc (Nat.le_refl _) _ | exact HB.out)) (by omega) (by omega) z0).mono ?_; rintro e w1 ⟨rfl, hb1⟩; obtain ⟨hcx, hfx⟩ := bcell hb1; have hzz : w.heap.size < w1.heap.size := (by have := hb1.size; (try simp at this); omega); have HB := Asd.mk (show Below w.heap.size w w1 from by first | exact below_st ((Below.refl _ _).alloc (Nat.le_refl _) _) hb1 | exact below_st HB.out hb1)) | (go_at_call 106; refine (szCaseS_calls x.Cases _ _ _ (h2.out.below (by first | exact (Below.refl _ _).alloc (Nat.le_refl _) _ | exact HB.out)) (by omega) (by omega) z1).mono ?_; rintro e w1 ⟨rfl, hb1⟩; obtain ⟨hcx, hfx⟩ := bcell hb1; have hzz : w.heap.size < w1.heap.size := (by have := hb1.size; (try simp at this); omega); have HB := Asd.mk (show Below w.heap.size w w1 from by first | exact below_st ((Below.refl _ _).alloc (Nat.le_refl _) _) hb1 | exact below_st HB.out hb1)))
  go_ret
  exact ⟨by rw [e1.out]; rfl, by first | exact (Below.refl _ _).alloc (Nat.le_refl _) _ | exact HB.out⟩
set_option maxRecDepth 100000 in
set_option maxHeartbeats 2000000 in
theorem szStepS_calls {tStep tCase : Nat} (xs : List Step) (left : Int) (v : Value) (w : World) (h : rep w (StepsT tStep tCase xs) v) (g0 : 0 ≤ left) (g1 : left ≤ 1048576) (hz : ∀ x ∈ xs, x.Zm) :
    Calls Try.prog 79 #[v, .int .i64 left] w fun e w' => e = .returned (.int .i64 (szI (Step.bs xs) left)) ∧ Below w.heap.size w w' := by
  obtain ⟨A, c, rfl, hc, hn⟩ := rep_len h
  have h := Asd.mk h
  by_cases q0 : (xs.length : Int) ≤ left
  rotate_left
  · have e1 := Hid.mk' (show szI (Step.bs xs) left = -1 from szI_no (by unfold Step.bs bsOf; omega))
    go_enter Try.func79, Try.ntmps79
    go_wp2
    go_ret
    exact ⟨by rw [e1.out]; rfl, Below.refl _ _⟩
  go_enter Try.func79, Try.ntmps79
  go_wp2
  go_loopw [1, 5] (fun l i wr => ∃ (k : Nat) (L : Int), k ≤ xs.length ∧ i = .int .i64 k ∧ l = .int .i64 L ∧ 0 ≤ L ∧ L ≤ 1048576 ∧ szTo Step.bk xs left k L ∧ Below w.heap.size w wr) (fun _ i _ => xs.length - (intOf i).toNat)
  case atStart => exact ⟨0, _, by omega, rfl, rfl, by omega, by omega, szTo_zero _ _ _, Below.refl _ _⟩
  case round =>
    obtain ⟨k, L, hk, rfl, rfl, hL0, hL1, hA, hbr⟩ := hrel
    by_cases hlt : k < xs.length
    · obtain ⟨a, c', v0, v2, he, k0, k1, k2, k3, k4, k5, k6, k7, h0, h2, hr⟩ := Step.elem (h.out.below hbr) hlt
      cases he
      obtain ⟨B0, b0, rfl, _, _⟩ := rep_len h0
      obtain ⟨B2, b2, rfl, _, _⟩ := rep_len h2
      clear h0 h2
      have hr := Asd.mk hr
      have hsm := hz _ (List.getElem_mem hlt)
      by_cases q1 : ((xs[k].bk : Nat) : Int) ≤ L
      · have e1 := szTo_succ hA hlt
        have e2 : szI xs[k].bk L = L - (xs[k].bk : Nat) := szI_yes q1
        go_wp2_with (first | (go_at_call 99; refine (szStep_calls xs[k] L _ hr.out hL0 hL1 hsm).mono ?_; rintro e w2 ⟨rfl, hb2⟩))
        go_roundw
        case rel => exact ⟨k + 1, _, by omega, by go_num, rfl, by omega, by omega, e1, below_st hbr hb2⟩
        case measure => simp [intOf]; omega
      · have e1 := Hid.mk' (szTo_no hA hlt q1)
        have e2 : szI xs[k].bk L = -1 := szI_no q1
        go_wp2_with (first | (go_at_call 99; refine (szStep_calls xs[k] L _ hr.out hL0 hL1 hsm).mono ?_; rintro e w2 ⟨rfl, hb2⟩))
        go_ret
        exact ⟨by rw [Step.bs, e1.out]; rfl, below_st hbr hb2⟩
    · obtain rfl : k = xs.length := by omega
      have e1 := Hid.mk' (szTo_end hA hL0)
      go_wp2
      go_ret
      exact ⟨by rw [Step.bs, e1.out]; rfl, hbr⟩
set_option maxRecDepth 100000 in
set_option maxHeartbeats 2000000 in
theorem szAction_calls {tStep tCase : Nat} (x : Action) (left : Int) (w : World) {vs : List Value} (h : reps w (x.c tStep tCase) vs) (g0 : 0 ≤ left) (g1 : left ≤ 1048576) (hz : x.Zm) :
    Calls Try.prog 44 #[.agg vs.toArray, .int .i64 left] w fun e w' => e = .returned (.int .i64 (szI x.bk left)) ∧ Below w.heap.size w w' := by
  unfold Action.Zm at hz
  have z0 := hz
  obtain ⟨v1, rfl, h1⟩ := Action.ropen h
  obtain ⟨A1, c1, rfl, _, _⟩ := rep_len h1
  have h1 := Asd.mk h1
  clear h
  by_cases q0 : ((Step.bs x.Steps : Nat) : Int) ≤ left
  rotate_left
  · have e1 := Hid.mk' (show szI x.bk left = -1 from szI_no (by unfold Action.bk; omega))
    have s0 : szI (Step.bs x.Steps) (left) = -1 := szI_no q0
    go_enter Try.func44, Try.ntmps44
    go_wp2_with (first | (go_at_call 79; refine (szStepS_calls x.Steps _ _ _ (h1.out.below (by first | exact (Below.refl _ _).alloc (Nat.le_refl _) _ | exact HB.out)) (by omega) (by omega) z0).mono ?_; rintro e w1 ⟨rfl, hb1⟩; obtain ⟨hcx, hfx⟩ := bcell hb1; have hzz : w.heap.size < w1.heap.size := (by have := hb1.size; (try simp at this); omega); have HB := Asd.mk (show Below w.heap.size w w1 from by first | exact below_st ((Below.refl _ _).alloc (Nat.le_refl _) _) hb1 | exact below_st HB.out hb1)))
    go_ret
    exact ⟨by rw [e1.out]; rfl, by first | exact (Below.refl _ _).alloc (Nat.le_refl _) _ | exact HB.out⟩
  have s0 : szI (Step.bs x.Steps) (left) = left - (Step.bs x.Steps : Nat) := szI_yes q0
  have e1 := Hid.mk' (show szI x.bk left = left - (Step.bs x.Steps : Nat) from by rw [szI_yes (by unfold Action.bk; omega)]; unfold Action.bk; omega)
  go_enter Try.func44, Try.ntmps44
  go_wp2_with (first | (go_at_call 79; refine (szStepS_calls x.Steps _ _ _ (h1.out.below (by first | exact (Below.refl _ _).alloc (Nat.le_refl _) _ | exact HB.out)) (by omega) (by omega) z0).mono ?_; rintro e w1 ⟨rfl, hb1⟩; obtain ⟨hcx, hfx⟩ := bcell hb1; have hzz : w.heap.size < w1.heap.size := (by have := hb1.size; (try simp at this); omega); have HB := Asd.mk (show Below w.heap.size w w1 from by first | exact below_st ((Below.refl _ _).alloc (Nat.le_refl _) _) hb1 | exact below_st HB.out hb1)))
  go_ret
  exact ⟨by rw [e1.out]; rfl, by first | exact (Below.refl _ _).alloc (Nat.le_refl _) _ | exact HB.out⟩
end Go.Proofs.Ytmjfkjdfmpileaa.M
