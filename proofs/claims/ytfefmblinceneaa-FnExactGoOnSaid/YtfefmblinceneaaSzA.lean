/- Contracts: the laws' own sizes. -/
import Derived.Test.YtfefmblinceneaaAct
set_option linter.unusedVariables false
set_option linter.unusedSimpArgs false
namespace Go.Proofs.Ytfefmblinceneaa.M
open Go.RowKit

def szI (b : Nat) (left : Int) : Int := if (b : Int) ≤ left then left - b else -1
theorem szI_yes {b : Nat} {left : Int} (h : (b : Int) ≤ left) : szI b left = left - b := if_pos h
theorem szI_no {b : Nat} {left : Int} (h : ¬(b : Int) ≤ left) : szI b left = -1 := if_neg h
def sumTo {α : Type} (f : α → Nat) (xs : List α) (k : Nat) : Nat := ((xs.take k).map f).sum
theorem sumTo_zero {α : Type} (f : α → Nat) (xs : List α) : sumTo f xs 0 = 0 := by simp [sumTo]
theorem sumTo_succ {α : Type} (f : α → Nat) (xs : List α) (k : Nat) (h : k < xs.length) : sumTo f xs (k + 1) = sumTo f xs k + f xs[k] := by
  unfold sumTo; rw [List.take_succ_eq_append_getElem h, List.map_append, List.sum_append]; simp
theorem sumTo_end {α : Type} (f : α → Nat) (xs : List α) : sumTo f xs xs.length = (xs.map f).sum := by simp [sumTo]
theorem sumTo_le {α : Type} (f : α → Nat) (xs : List α) (k : Nat) (h : k < xs.length) : sumTo f xs k + f xs[k] ≤ (xs.map f).sum := by
  rw [← sumTo_succ f xs k h, ← List.take_append_drop (k + 1) (xs.map f), List.sum_append, ← List.map_take]; unfold sumTo; omega
def bsOf {α : Type} (f : α → Nat) (xs : List α) : Nat := xs.length + (xs.map f).sum
def szTo {α : Type} (f : α → Nat) (xs : List α) (left : Int) (k : Nat) (L : Int) : Prop := left = L + xs.length + sumTo f xs k
theorem szTo_zero {α : Type} (f : α → Nat) (xs : List α) (left : Int) : szTo f xs left 0 (left - xs.length) := by unfold szTo; rw [sumTo_zero]; omega
theorem szTo_succ {α : Type} {f : α → Nat} {xs : List α} {left L : Int} {k : Nat} (h : szTo f xs left k L) (hk : k < xs.length) : szTo f xs left (k + 1) (L - f xs[k]) := by unfold szTo at *; rw [sumTo_succ f xs k hk]; omega
theorem szTo_no {α : Type} {f : α → Nat} {xs : List α} {left L : Int} {k : Nat} (h : szTo f xs left k L) (hk : k < xs.length) (hn : ¬(f xs[k] : Int) ≤ L) : szI (bsOf f xs) left = -1 := by
  have := sumTo_le f xs k hk; unfold szTo at h; exact szI_no (by unfold bsOf; omega)
theorem szTo_end {α : Type} {f : α → Nat} {xs : List α} {left L : Int} (h : szTo f xs left xs.length L) (h0 : 0 ≤ L) : szI (bsOf f xs) left = L := by
  unfold szTo at h; rw [sumTo_end] at h; rw [szI_yes (by unfold bsOf; omega)]; unfold bsOf; omega
def bkS (xs : List ByteArray) : Nat := bsOf ByteArray.size xs
def SmS (xs : List ByteArray) : Prop := ∀ x ∈ xs, x.size ≤ 9223372036854775807
def Case.bk (x : Case) : Nat := x.Text.size
def Case.bs (xs : List Case) : Nat := bsOf Case.bk xs
def Case.Zm (x : Case) : Prop := x.Text.size ≤ 9223372036854775807
def Step.bk (x : Step) : Nat := bkS x.Asks + Case.bs x.Cases + x.Give.size
def Step.bs (xs : List Step) : Nat := bsOf Step.bk xs
def Step.Zm (x : Step) : Prop := SmS x.Asks ∧ (∀ y ∈ x.Cases, y.Zm) ∧ x.Give.size ≤ 9223372036854775807
def Action.bk (x : Action) : Nat := Step.bs x.Steps
def Action.bs (xs : List Action) : Nat := bsOf Action.bk xs
def Action.Zm (x : Action) : Prop := (∀ y ∈ x.Steps, y.Zm)
set_option maxHeartbeats 1000000 in
theorem szStringS_calls {t : Nat} (xs : List ByteArray) (left : Int) (v : Value) (w : World) (h : rep w (strsT t xs) v) (g0 : 0 ≤ left) (g1 : left ≤ 1048576) (hz : SmS xs) :
    Calls Try.prog 47 #[v, .int .i64 left] w fun e w' => e = .returned (.int .i64 (szI (bkS xs) left)) ∧ Below w.heap.size w w' := by
  obtain ⟨A, c, rfl, hc, hn⟩ := rep_len h
  have h := Asd.mk h
  by_cases q0 : (xs.length : Int) ≤ left
  rotate_left
  · have e1 := Hid.mk' (show szI (bkS xs) left = -1 from szI_no (by unfold bkS bsOf; omega))
    go_enter Try.func47, Try.ntmps47
    go_wp2
    go_ret
    exact ⟨by rw [e1.out]; rfl, Below.refl _ _⟩
  go_enter Try.func47, Try.ntmps47
  go_wp2
  go_loop [1, 5] (fun l i => ∃ (k : Nat) (L : Int), k ≤ xs.length ∧ i = .int .i64 k ∧ l = .int .i64 L ∧ 0 ≤ L ∧ L ≤ 1048576 ∧ szTo ByteArray.size xs left k L) (fun _ i => xs.length - (intOf i).toNat)
  case atStart => exact ⟨0, _, by omega, rfl, rfl, by omega, by omega, szTo_zero _ _ _⟩
  case round =>
    obtain ⟨k, L, hk, rfl, rfl, hL0, hL1, hA⟩ := hrel
    by_cases hlt : k < xs.length
    · obtain ⟨a, c', he, hcell⟩ := str_elem h.out hlt
      cases he
      have hsm := hz _ (List.getElem_mem hlt)
      by_cases q1 : (xs[k].size : Int) ≤ L
      · have e1 := szTo_succ hA hlt
        go_wp2
        go_round
        case rel => exact ⟨k + 1, _, by omega, by go_num, rfl, by omega, by omega, e1⟩
        case measure => simp [intOf]; omega
      · have e1 := Hid.mk' (szTo_no hA hlt q1)
        go_wp2
        go_ret
        exact ⟨by rw [bkS, e1.out]; rfl, Below.refl _ _⟩
    · obtain rfl : k = xs.length := by omega
      have e1 := Hid.mk' (szTo_end hA hL0)
      go_wp2
      go_ret
      exact ⟨by rw [bkS, e1.out]; rfl, Below.refl _ _⟩
set_option maxRecDepth 100000 in
set_option maxHeartbeats 2000000 in
theorem szCase_calls (x : Case) (left : Int) (w : World) {vs : List Value} (h : reps w (x.c) vs) (g0 : 0 ≤ left) (g1 : left ≤ 1048576) (hz : x.Zm) :
    Calls Try.prog 54 #[.agg vs.toArray, .int .i64 left] w fun e w' => e = .returned (.int .i64 (szI x.bk left)) ∧ Below w.heap.size w w' := by
  unfold Case.Zm at hz
  have z0 := hz
  obtain rfl := Case.ropen h
  clear h
  by_cases q0 : ((x.Text.size : Nat) : Int) ≤ left
  rotate_left
  · have e1 := Hid.mk' (show szI x.bk left = -1 from szI_no (by unfold Case.bk; omega))
    go_enter Try.func54, Try.ntmps54
    go_wp2
    go_ret
    exact ⟨by rw [e1.out]; rfl, by first | exact (Below.refl _ _).alloc (Nat.le_refl _) _ | exact HB.out⟩
  have e1 := Hid.mk' (show szI x.bk left = left - (x.Text.size : Nat) from by rw [szI_yes (by unfold Case.bk; omega)]; unfold Case.bk; omega)
  go_enter Try.func54, Try.ntmps54
  go_wp2
  go_ret
  exact ⟨by rw [e1.out]; rfl, by first | exact (Below.refl _ _).alloc (Nat.le_refl _) _ | exact HB.out⟩
set_option maxRecDepth 100000 in
set_option maxHeartbeats 2000000 in
theorem szCaseS_calls {tCase : Nat} (xs : List Case) (left : Int) (v : Value) (w : World) (h : rep w (CasesT tCase xs) v) (g0 : 0 ≤ left) (g1 : left ≤ 1048576) (hz : ∀ x ∈ xs, x.Zm) :
    Calls Try.prog 48 #[v, .int .i64 left] w fun e w' => e = .returned (.int .i64 (szI (Case.bs xs) left)) ∧ Below w.heap.size w w' := by
  obtain ⟨A, c, rfl, hc, hn⟩ := rep_len h
  have h := Asd.mk h
  by_cases q0 : (xs.length : Int) ≤ left
  rotate_left
  · have e1 := Hid.mk' (show szI (Case.bs xs) left = -1 from szI_no (by unfold Case.bs bsOf; omega))
    go_enter Try.func48, Try.ntmps48
    go_wp2
    go_ret
    exact ⟨by rw [e1.out]; rfl, Below.refl _ _⟩
  go_enter Try.func48, Try.ntmps48
  go_wp2
  go_loopw [1, 5] (fun l i wr => ∃ (k : Nat) (L : Int), k ≤ xs.length ∧ i = .int .i64 k ∧ l = .int .i64 L ∧ 0 ≤ L ∧ L ≤ 1048576 ∧ szTo Case.bk xs left k L ∧ Below w.heap.size w wr) (fun _ i _ => xs.length - (intOf i).toNat)
  case atStart => exact ⟨0, _, by omega, rfl, rfl, by omega, by omega, szTo_zero _ _ _, Below.refl _ _⟩
  case round =>
    obtain ⟨k, L, hk, rfl, rfl, hL0, hL1, hA, hbr⟩ := hrel
    by_cases hlt : k < xs.length
    · obtain ⟨a, c', he, k0, k1, hr⟩ := Case.elem (h.out.below hbr) hlt
      cases he
      have hr := Asd.mk hr
      have hsm := hz _ (List.getElem_mem hlt)
      by_cases q1 : ((xs[k].bk : Nat) : Int) ≤ L
      · have e1 := szTo_succ hA hlt
        have e2 : szI xs[k].bk L = L - (xs[k].bk : Nat) := szI_yes q1
        go_wp2_with (first | (go_at_call 54; refine (szCase_calls xs[k] L _ hr.out hL0 hL1 hsm).mono ?_; rintro e w2 ⟨rfl, hb2⟩))
        go_roundw
        case rel => exact ⟨k + 1, _, by omega, by go_num, rfl, by omega, by omega, e1, below_st hbr hb2⟩
        case measure => simp [intOf]; omega
      · have e1 := Hid.mk' (szTo_no hA hlt q1)
        have e2 : szI xs[k].bk L = -1 := szI_no q1
        go_wp2_with (first | (go_at_call 54; refine (szCase_calls xs[k] L _ hr.out hL0 hL1 hsm).mono ?_; rintro e w2 ⟨rfl, hb2⟩))
        go_ret
        exact ⟨by rw [Case.bs, e1.out]; rfl, below_st hbr hb2⟩
    · obtain rfl : k = xs.length := by omega
      have e1 := Hid.mk' (szTo_end hA hL0)
      go_wp2
      go_ret
      exact ⟨by rw [Case.bs, e1.out]; rfl, hbr⟩
set_option maxRecDepth 100000 in
set_option maxHeartbeats 2000000 in
theorem szStep_calls {tCase : Nat} (x : Step) (left : Int) (w : World) {vs : List Value} (h : reps w (x.c tCase) vs) (g0 : 0 ≤ left) (g1 : left ≤ 1048576) (hz : x.Zm) :
    Calls Try.prog 39 #[.agg vs.toArray, .int .i64 left] w fun e w' => e = .returned (.int .i64 (szI x.bk left)) ∧ Below w.heap.size w w' := by
  unfold Step.Zm at hz
  obtain ⟨z0, z1, z2⟩ := hz
  obtain ⟨v0, v2, rfl, h0, h2⟩ := Step.ropen h
  obtain ⟨A0, c0, rfl, _, _⟩ := rep_len h0
  have h0 := Asd.mk h0
  obtain ⟨A2, c2, rfl, _, _⟩ := rep_len h2
  have h2 := Asd.mk h2
  clear h
  by_cases q0 : ((bkS x.Asks : Nat) : Int) ≤ left
  rotate_left
  · have e1 := Hid.mk' (show szI x.bk left = -1 from szI_no (by unfold Step.bk; omega))
    have s0 : szI (bkS x.Asks) (left) = -1 := szI_no q0
    go_enter Try.func39, Try.ntmps39
    go_wp2_with (first | (go_at_call 47; refine (szStringS_calls x.Asks _ _ _ (h0.out.below (by first | exact (Below.refl _ _).alloc (Nat.le_refl _) _ | exact HB.out)) (by omega) (by omega) z0).mono ?_; rintro e w1 ⟨rfl, hb1⟩; obtain ⟨hcx, hfx⟩ := bcell hb1; have hzz : w.heap.size < w1.heap.size := (by have := hb1.size; (try simp at this); omega); have HB := Asd.mk (show Below w.heap.size w w1 from by first | exact below_st ((Below.refl _ _).alloc (Nat.le_refl _) _) hb1 | exact below_st HB.out hb1)) | (go_at_call 48; refine (szCaseS_calls x.Cases _ _ _ (h2.out.below (by first | exact (Below.refl _ _).alloc (Nat.le_refl _) _ | exact HB.out)) (by omega) (by omega) z1).mono ?_; rintro e w1 ⟨rfl, hb1⟩; obtain ⟨hcx, hfx⟩ := bcell hb1; have hzz : w.heap.size < w1.heap.size := (by have := hb1.size; (try simp at this); omega); have HB := Asd.mk (show Below w.heap.size w w1 from by first | exact below_st ((Below.refl _ _).alloc (Nat.le_refl _) _) hb1 | exact below_st HB.out hb1)))
    go_ret
    exact ⟨by rw [e1.out]; rfl, by first | exact (Below.refl _ _).alloc (Nat.le_refl _) _ | exact HB.out⟩
  have s0 : szI (bkS x.Asks) (left) = left - (bkS x.Asks : Nat) := szI_yes q0
  by_cases q1 : ((Case.bs x.Cases : Nat) : Int) ≤ left - (bkS x.Asks : Nat)
  rotate_left
  · have e1 := Hid.mk' (show szI x.bk left = -1 from szI_no (by unfold Step.bk; omega))
    have s1 : szI (Case.bs x.Cases) (left - (bkS x.Asks : Nat)) = -1 := szI_no q1
    go_enter Try.func39, Try.ntmps39
    go_wp2_with (first | (go_at_call 47; refine (szStringS_calls x.Asks _ _ _ (h0.out.below (by first | exact (Below.refl _ _).alloc (Nat.le_refl _) _ | exact HB.out)) (by omega) (by omega) z0).mono ?_; rintro e w1 ⟨rfl, hb1⟩; obtain ⟨hcx, hfx⟩ := bcell hb1; have hzz : w.heap.size < w1.heap.size := (by have := hb1.size; (try simp at this); omega); have HB := Asd.mk (show Below w.heap.size w w1 from by first | exact below_st ((Below.refl _ _).alloc (Nat.le_refl _) _) hb1 | exact below_st HB.out hb1)) | (go_at_call 48; refine (szCaseS_calls x.Cases _ _ _ (h2.out.below (by first | exact (Below.refl _ _).alloc (Nat.le_refl _) _ | exact HB.out)) (by omega) (by omega) z1).mono ?_; rintro e w1 ⟨rfl, hb1⟩; obtain ⟨hcx, hfx⟩ := bcell hb1; have hzz : w.heap.size < w1.heap.size := (by have := hb1.size; (try simp at this); omega); have HB := Asd.mk (show Below w.heap.size w w1 from by first | exact below_st ((Below.refl _ _).alloc (Nat.le_refl _) _) hb1 | exact below_st HB.out hb1)))
    go_ret
    exact ⟨by rw [e1.out]; rfl, by first | exact (Below.refl _ _).alloc (Nat.le_refl _) _ | exact HB.out⟩
  have s1 : szI (Case.bs x.Cases) (left - (bkS x.Asks : Nat)) = left - (bkS x.Asks : Nat) - (Case.bs x.Cases : Nat) := szI_yes q1
  by_cases q2 : ((x.Give.size : Nat) : Int) ≤ left - (bkS x.Asks : Nat) - (Case.bs x.Cases : Nat)
  rotate_left
  · have e1 := Hid.mk' (show szI x.bk left = -1 from szI_no (by unfold Step.bk; omega))
    go_enter Try.func39, Try.ntmps39
    go_wp2_with (first | (go_at_call 47; refine (szStringS_calls x.Asks _ _ _ (h0.out.below (by first | exact (Below.refl _ _).alloc (Nat.le_refl _) _ | exact HB.out)) (by omega) (by omega) z0).mono ?_; rintro e w1 ⟨rfl, hb1⟩; obtain ⟨hcx, hfx⟩ := bcell hb1; have hzz : w.heap.size < w1.heap.size := (by have := hb1.size; (try simp at this); omega); have HB := Asd.mk (show Below w.heap.size w w1 from by first | exact below_st ((Below.refl _ _).alloc (Nat.le_refl _) _) hb1 | exact below_st HB.out hb1)) | (go_at_call 48; refine (szCaseS_calls x.Cases _ _ _ (h2.out.below (by first | exact (Below.refl _ _).alloc (Nat.le_refl _) _ | exact HB.out)) (by omega) (by omega) z1).mono ?_; rintro e w1 ⟨rfl, hb1⟩; obtain ⟨hcx, hfx⟩ := bcell hb1; have hzz : w.heap.size < w1.heap.size := (by have := hb1.size; (try simp at this); omega); have HB := Asd.mk (show Below w.heap.size w w1 from by first | exact below_st ((Below.refl _ _).alloc (Nat.le_refl _) _) hb1 | exact below_st HB.out hb1)))
    go_ret
    exact ⟨by rw [e1.out]; rfl, by first | exact (Below.refl _ _).alloc (Nat.le_refl _) _ | exact HB.out⟩
  have e1 := Hid.mk' (show szI x.bk left = left - (bkS x.Asks : Nat) - (Case.bs x.Cases : Nat) - (x.Give.size : Nat) from by rw [szI_yes (by unfold Step.bk; omega)]; unfold Step.bk; omega)
  go_enter Try.func39, Try.ntmps39
  go_wp2_with (first | (go_at_call 47; refine (szStringS_calls x.Asks _ _ _ (h0.out.below (by first | exact (Below.refl _ _).alloc (Nat.le_refl _) _ | exact HB.out)) (by omega) (by omega) z0).mono ?_; rintro e w1 ⟨rfl, hb1⟩; obtain ⟨hcx, hfx⟩ := bcell hb1; have hzz : w.heap.size < w1.heap.size := (by have := hb1.size; (try simp at this); omega); have HB := Asd.mk (show Below w.heap.size w w1 from by first | exact below_st ((Below.refl _ _).alloc (Nat.le_refl _) _) hb1 | exact below_st HB.out hb1)) | (go_at_call 48; refine (szCaseS_calls x.Cases _ _ _ (h2.out.below (by first | exact (Below.refl _ _).alloc (Nat.le_refl _) _ | exact HB.out)) (by omega) (by omega) z1).mono ?_; rintro e w1 ⟨rfl, hb1⟩; obtain ⟨hcx, hfx⟩ := bcell hb1; have hzz : w.heap.size < w1.heap.size := (by have := hb1.size; (try simp at this); omega); have HB := Asd.mk (show Below w.heap.size w w1 from by first | exact below_st ((Below.refl _ _).alloc (Nat.le_refl _) _) hb1 | exact below_st HB.out hb1)))
  go_ret
  exact ⟨by rw [e1.out]; rfl, by first | exact (Below.refl _ _).alloc (Nat.le_refl _) _ | exact HB.out⟩
set_option maxRecDepth 100000 in
set_option maxHeartbeats 2000000 in
theorem szStepS_calls {tStep tCase : Nat} (xs : List Step) (left : Int) (v : Value) (w : World) (h : rep w (StepsT tStep tCase xs) v) (g0 : 0 ≤ left) (g1 : left ≤ 1048576) (hz : ∀ x ∈ xs, x.Zm) :
    Calls Try.prog 23 #[v, .int .i64 left] w fun e w' => e = .returned (.int .i64 (szI (Step.bs xs) left)) ∧ Below w.heap.size w w' := by
  obtain ⟨A, c, rfl, hc, hn⟩ := rep_len h
  have h := Asd.mk h
  by_cases q0 : (xs.length : Int) ≤ left
  rotate_left
  · have e1 := Hid.mk' (show szI (Step.bs xs) left = -1 from szI_no (by unfold Step.bs bsOf; omega))
    go_enter Try.func23, Try.ntmps23
    go_wp2
    go_ret
    exact ⟨by rw [e1.out]; rfl, Below.refl _ _⟩
  go_enter Try.func23, Try.ntmps23
  go_wp2
  go_loopw [1, 5] (fun l i wr => ∃ (k : Nat) (L : Int), k ≤ xs.length ∧ i = .int .i64 k ∧ l = .int .i64 L ∧ 0 ≤ L ∧ L ≤ 1048576 ∧ szTo Step.bk xs left k L ∧ Below w.heap.size w wr) (fun _ i _ => xs.length - (intOf i).toNat)
  case atStart => exact ⟨0, _, by omega, rfl, rfl, by omega, by omega, szTo_zero _ _ _, Below.refl _ _⟩
  case round =>
    obtain ⟨k, L, hk, rfl, rfl, hL0, hL1, hA, hbr⟩ := hrel
    by_cases hlt : k < xs.length
    · obtain ⟨a, c', v0, v2, he, k0, k1, k2, k3, k4, k5, k6, k7, h0, h2, hr⟩ := Step.elem (h.out.below hbr) hlt
      cases he
      obtain ⟨B0, b0, rfl, _, _⟩ := rep_len h0
      obtain ⟨B2, b2, rfl, _, _⟩ := rep_len h2
      clear h0 h2
      have hr := Asd.mk hr
      have hsm := hz _ (List.getElem_mem hlt)
      by_cases q1 : ((xs[k].bk : Nat) : Int) ≤ L
      · have e1 := szTo_succ hA hlt
        have e2 : szI xs[k].bk L = L - (xs[k].bk : Nat) := szI_yes q1
        go_wp2_with (first | (go_at_call 39; refine (szStep_calls xs[k] L _ hr.out hL0 hL1 hsm).mono ?_; rintro e w2 ⟨rfl, hb2⟩))
        go_roundw
        case rel => exact ⟨k + 1, _, by omega, by go_num, rfl, by omega, by omega, e1, below_st hbr hb2⟩
        case measure => simp [intOf]; omega
      · have e1 := Hid.mk' (szTo_no hA hlt q1)
        have e2 : szI xs[k].bk L = -1 := szI_no q1
        go_wp2_with (first | (go_at_call 39; refine (szStep_calls xs[k] L _ hr.out hL0 hL1 hsm).mono ?_; rintro e w2 ⟨rfl, hb2⟩))
        go_ret
        exact ⟨by rw [Step.bs, e1.out]; rfl, below_st hbr hb2⟩
    · obtain rfl : k = xs.length := by omega
      have e1 := Hid.mk' (szTo_end hA hL0)
      go_wp2
      go_ret
      exact ⟨by rw [Step.bs, e1.out]; rfl, hbr⟩
set_option maxRecDepth 100000 in
set_option maxHeartbeats 2000000 in
theorem szAction_calls {tStep tCase : Nat} (x : Action) (left : Int) (w : World) {vs : List Value} (h : reps w (x.c tStep tCase) vs) (g0 : 0 ≤ left) (g1 : left ≤ 1048576) (hz : x.Zm) :
    Calls Try.prog 7 #[.agg vs.toArray, .int .i64 left] w fun e w' => e = .returned (.int .i64 (szI x.bk left)) ∧ Below w.heap.size w w' := by
  unfold Action.Zm at hz
  have z0 := hz
  obtain ⟨v1, rfl, h1⟩ := Action.ropen h
  obtain ⟨A1, c1, rfl, _, _⟩ := rep_len h1
  have h1 := Asd.mk h1
  clear h
  by_cases q0 : ((Step.bs x.Steps : Nat) : Int) ≤ left
  rotate_left
  · have e1 := Hid.mk' (show szI x.bk left = -1 from szI_no (by unfold Action.bk; omega))
    have s0 : szI (Step.bs x.Steps) (left) = -1 := szI_no q0
    go_enter Try.func7, Try.ntmps7
    go_wp2_with (first | (go_at_call 23; refine (szStepS_calls x.Steps _ _ _ (h1.out.below (by first | exact (Below.refl _ _).alloc (Nat.le_refl _) _ | exact HB.out)) (by omega) (by omega) z0).mono ?_; rintro e w1 ⟨rfl, hb1⟩; obtain ⟨hcx, hfx⟩ := bcell hb1; have hzz : w.heap.size < w1.heap.size := (by have := hb1.size; (try simp at this); omega); have HB := Asd.mk (show Below w.heap.size w w1 from by first | exact below_st ((Below.refl _ _).alloc (Nat.le_refl _) _) hb1 | exact below_st HB.out hb1)))
    go_ret
    exact ⟨by rw [e1.out]; rfl, by first | exact (Below.refl _ _).alloc (Nat.le_refl _) _ | exact HB.out⟩
  have s0 : szI (Step.bs x.Steps) (left) = left - (Step.bs x.Steps : Nat) := szI_yes q0
  have e1 := Hid.mk' (show szI x.bk left = left - (Step.bs x.Steps : Nat) from by rw [szI_yes (by unfold Action.bk; omega)]; unfold Action.bk; omega)
  go_enter Try.func7, Try.ntmps7
  go_wp2_with (first | (go_at_call 23; refine (szStepS_calls x.Steps _ _ _ (h1.out.below (by first | exact (Below.refl _ _).alloc (Nat.le_refl _) _ | exact HB.out)) (by omega) (by omega) z0).mono ?_; rintro e w1 ⟨rfl, hb1⟩; obtain ⟨hcx, hfx⟩ := bcell hb1; have hzz : w.heap.size < w1.heap.size := (by have := hb1.size; (try simp at this); omega); have HB := Asd.mk (show Below w.heap.size w w1 from by first | exact below_st ((Below.refl _ _).alloc (Nat.le_refl _) _) hb1 | exact below_st HB.out hb1)))
  go_ret
  exact ⟨by rw [e1.out]; rfl, by first | exact (Below.refl _ _).alloc (Nat.le_refl _) _ | exact HB.out⟩
end Go.Proofs.Ytfefmblinceneaa.M
