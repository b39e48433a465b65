/- Contracts: the laws' own sizes. -/
import Derived.Test.YtmjfkjdfmpileaaSzA
set_option linter.unusedVariables false
set_option linter.unusedSimpArgs false
namespace Go.Proofs.Ytmjfkjdfmpileaa.M
open Go.RowKit

def Node.bk (x : Node) : Nat := x.Name.size + (x.Action.bk)
def Node.bs (xs : List Node) : Nat := bsOf Node.bk xs
def Node.Zm (x : Node) : Prop := x.Name.size ≤ 9223372036854775807 ∧ x.Action.Zm
def Web.bk (x : Web) : Nat := Node.bs x.Nodes
def Web.bs (xs : List Web) : Nat := bsOf Web.bk xs
def Web.Zm (x : Web) : Prop := (∀ y ∈ x.Nodes, y.Zm)
set_option maxRecDepth 100000 in
set_option maxHeartbeats 2000000 in
theorem szNode_calls {tStep tCase : Nat} (x : Node) (left : Int) (w : World) {vs : List Value} (h : reps w (x.c tStep tCase) vs) (g0 : 0 ≤ left) (g1 : left ≤ 1048576) (hz : x.Zm) :
    Calls Try.prog 14 #[.agg vs.toArray, .int .i64 left] w fun e w' => e = .returned (.int .i64 (szI x.bk left)) ∧ Below w.heap.size w w' := by
  unfold Node.Zm at hz
  obtain ⟨z0, z1⟩ := hz
  obtain ⟨v2, rfl, h2⟩ := Node.ropen h
  obtain ⟨A2, c2, rfl, _, _⟩ := rep_len h2
  have h2 := Asd.mk h2
  clear h
  by_cases q0 : ((x.Name.size : Nat) : Int) ≤ left
  rotate_left
  · have e1 := Hid.mk' (show szI x.bk left = -1 from szI_no (by unfold Node.bk; omega))
    go_enter Try.func14, Try.ntmps14
    go_wp2_with (first | (go_at_call 44; refine (szAction_calls x.Action _ _ (Action.rmk x.Action (h2.out.below (by first | exact (Below.refl _ _).alloc (Nat.le_refl _) _ | exact HB.out))) (by omega) (by omega) z1).mono ?_; rintro e w1 ⟨rfl, hb1⟩; obtain ⟨hcx, hfx⟩ := bcell hb1; have hzz : w.heap.size < w1.heap.size := (by have := hb1.size; (try simp at this); omega); have HB := Asd.mk (show Below w.heap.size w w1 from by first | exact below_st ((Below.refl _ _).alloc (Nat.le_refl _) _) hb1 | exact below_st HB.out hb1)))
    go_ret
    exact ⟨by rw [e1.out]; rfl, by first | exact (Below.refl _ _).alloc (Nat.le_refl _) _ | exact HB.out⟩
  by_cases q1 : (((x.Action.bk) : Nat) : Int) ≤ left - (x.Name.size : Nat)
  rotate_left
  · have e1 := Hid.mk' (show szI x.bk left = -1 from szI_no (by unfold Node.bk; omega))
    have s1 : szI ((x.Action.bk)) (left - (x.Name.size : Nat)) = -1 := szI_no q1
    go_enter Try.func14, Try.ntmps14
    go_wp2_with (first | (go_at_call 44; refine (szAction_calls x.Action _ _ (Action.rmk x.Action (h2.out.below (by first | exact (Below.refl _ _).alloc (Nat.le_refl _) _ | exact HB.out))) (by omega) (by omega) z1).mono ?_; rintro e w1 ⟨rfl, hb1⟩; obtain ⟨hcx, hfx⟩ := bcell hb1; have hzz : w.heap.size < w1.heap.size := (by have := hb1.size; (try simp at this); omega); have HB := Asd.mk (show Below w.heap.size w w1 from by first | exact below_st ((Below.refl _ _).alloc (Nat.le_refl _) _) hb1 | exact below_st HB.out hb1)))
    go_ret
    exact ⟨by rw [e1.out]; rfl, by first | exact (Below.refl _ _).alloc (Nat.le_refl _) _ | exact HB.out⟩
  have s1 : szI ((x.Action.bk)) (left - (x.Name.size : Nat)) = left - (x.Name.size : Nat) - ((x.Action.bk) : Nat) := szI_yes q1
  have e1 := Hid.mk' (show szI x.bk left = left - (x.Name.size : Nat) - ((x.Action.bk) : Nat) from by rw [szI_yes (by unfold Node.bk; omega)]; unfold Node.bk; omega)
  go_enter Try.func14, Try.ntmps14
  go_wp2_with (first | (go_at_call 44; refine (szAction_calls x.Action _ _ (Action.rmk x.Action (h2.out.below (by first | exact (Below.refl _ _).alloc (Nat.le_refl _) _ | exact HB.out))) (by omega) (by omega) z1).mono ?_; rintro e w1 ⟨rfl, hb1⟩; obtain ⟨hcx, hfx⟩ := bcell hb1; have hzz : w.heap.size < w1.heap.size := (by have := hb1.size; (try simp at this); omega); have HB := Asd.mk (show Below w.heap.size w w1 from by first | exact below_st ((Below.refl _ _).alloc (Nat.le_refl _) _) hb1 | exact below_st HB.out hb1)))
  go_ret
  exact ⟨by rw [e1.out]; rfl, by first | exact (Below.refl _ _).alloc (Nat.le_refl _) _ | exact HB.out⟩
set_option maxRecDepth 100000 in
set_option maxHeartbeats 2000000 in
theorem szNodeS_calls {tNode tStep tCase : Nat} (xs : List Node) (left : Int) (v : Value) (w : World) (h : rep w (NodesT tNode tStep tCase xs) v) (g0 : 0 ≤ left) (g1 : left ≤ 1048576) (hz : ∀ x ∈ xs, x.Zm) :
    Calls Try.prog 32 #[v, .int .i64 left] w fun e w' => e = .returned (.int .i64 (szI (Node.bs xs) left)) ∧ Below w.heap.size w w' := by
  obtain ⟨A, c, rfl, hc, hn⟩ := rep_len h
  have h := Asd.mk h
  by_cases q0 : (xs.length : Int) ≤ left
  rotate_left
  · have e1 := Hid.mk' (show szI (Node.bs xs) left = -1 from szI_no (by unfold Node.bs bsOf; omega))
    go_enter Try.func32, Try.ntmps32
    go_wp2
    go_ret
    exact ⟨by rw [e1.out]; rfl, Below.refl _ _⟩
  go_enter Try.func32, Try.ntmps32
  go_wp2
  go_loopw [1, 5] (fun l i wr => ∃ (k : Nat) (L : Int), k ≤ xs.length ∧ i = .int .i64 k ∧ l = .int .i64 L ∧ 0 ≤ L ∧ L ≤ 1048576 ∧ szTo Node.bk xs left k L ∧ Below w.heap.size w wr) (fun _ i _ => xs.length - (intOf i).toNat)
  case atStart => exact ⟨0, _, by omega, rfl, rfl, by omega, by omega, szTo_zero _ _ _, Below.refl _ _⟩
  case round =>
    obtain ⟨k, L, hk, rfl, rfl, hL0, hL1, hA, hbr⟩ := hrel
    by_cases hlt : k < xs.length
    · obtain ⟨a, c', v2, he, k0, k1, k2, h2, hr⟩ := Node.elem (h.out.below hbr) hlt
      cases he
      obtain ⟨B2, b2, rfl, _, _⟩ := rep_len h2
      clear h2
      have hr := Asd.mk hr
      have hsm := hz _ (List.getElem_mem hlt)
      by_cases q1 : ((xs[k].bk : Nat) : Int) ≤ L
      · have e1 := szTo_succ hA hlt
        have e2 : szI xs[k].bk L = L - (xs[k].bk : Nat) := szI_yes q1
        go_wp2_with (first | (go_at_call 14; refine (szNode_calls xs[k] L _ hr.out hL0 hL1 hsm).mono ?_; rintro e w2 ⟨rfl, hb2⟩))
        go_roundw
        case rel => exact ⟨k + 1, _, by omega, by go_num, rfl, by omega, by omega, e1, below_st hbr hb2⟩
        case measure => simp [intOf]; omega
      · have e1 := Hid.mk' (szTo_no hA hlt q1)
        have e2 : szI xs[k].bk L = -1 := szI_no q1
        go_wp2_with (first | (go_at_call 14; refine (szNode_calls xs[k] L _ hr.out hL0 hL1 hsm).mono ?_; rintro e w2 ⟨rfl, hb2⟩))
        go_ret
        exact ⟨by rw [Node.bs, e1.out]; rfl, below_st hbr hb2⟩
    · obtain rfl : k = xs.length := by omega
      have e1 := Hid.mk' (szTo_end hA hL0)
      go_wp2
      go_ret
      exact ⟨by rw [Node.bs, e1.out]; rfl, hbr⟩
set_option maxRecDepth 100000 in
set_option maxHeartbeats 2000000 in
theorem szWeb_calls {tNode tStep tCase : Nat} (x : Web) (left : Int) (w : World) {vs : List Value} (h : reps w (x.c tNode tStep tCase) vs) (g0 : 0 ≤ left) (g1 : left ≤ 1048576) (hz : x.Zm) :
    Calls Try.prog 7 #[.agg vs.toArray, .int .i64 left] w fun e w' => e = .returned (.int .i64 (szI x.bk left)) ∧ Below w.heap.size w w' := by
  unfold Web.Zm at hz
  have z0 := hz
  obtain ⟨v0, rfl, h0⟩ := Web.ropen h
  obtain ⟨A0, c0, rfl, _, _⟩ := rep_len h0
  have h0 := Asd.mk h0
  clear h
  by_cases q0 : ((Node.bs x.Nodes : Nat) : Int) ≤ left
  rotate_left
  · have e1 := Hid.mk' (show szI x.bk left = -1 from szI_no (by unfold Web.bk; omega))
    have s0 : szI (Node.bs x.Nodes) (left) = -1 := szI_no q0
    go_enter Try.func7, Try.ntmps7
    go_wp2_with (first | (go_at_call 32; refine (szNodeS_calls x.Nodes _ _ _ (h0.out.below (by first | exact (Below.refl _ _).alloc (Nat.le_refl _) _ | exact HB.out)) (by omega) (by omega) z0).mono ?_; rintro e w1 ⟨rfl, hb1⟩; obtain ⟨hcx, hfx⟩ := bcell hb1; have hzz : w.heap.size < w1.heap.size := (by have := hb1.size; (try simp at this); omega); have HB := Asd.mk (show Below w.heap.size w w1 from by first | exact below_st ((Below.refl _ _).alloc (Nat.le_refl _) _) hb1 | exact below_st HB.out hb1)))
    go_ret
    exact ⟨by rw [e1.out]; rfl, by first | exact (Below.refl _ _).alloc (Nat.le_refl _) _ | exact HB.out⟩
  have s0 : szI (Node.bs x.Nodes) (left) = left - (Node.bs x.Nodes : Nat) := szI_yes q0
  have e1 := Hid.mk' (show szI x.bk left = left - (Node.bs x.Nodes : Nat) from by rw [szI_yes (by unfold Web.bk; omega)]; unfold Web.bk; omega)
  go_enter Try.func7, Try.ntmps7
  go_wp2_with (first | (go_at_call 32; refine (szNodeS_calls x.Nodes _ _ _ (h0.out.below (by first | exact (Below.refl _ _).alloc (Nat.le_refl _) _ | exact HB.out)) (by omega) (by omega) z0).mono ?_; rintro e w1 ⟨rfl, hb1⟩; obtain ⟨hcx, hfx⟩ := bcell hb1; have hzz : w.heap.size < w1.heap.size := (by have := hb1.size; (try simp at this); omega); have HB := Asd.mk (show Below w.heap.size w w1 from by first | exact below_st ((Below.refl _ _).alloc (Nat.le_refl _) _) hb1 | exact below_st HB.out hb1)))
  go_ret
  exact ⟨by rw [e1.out]; rfl, by first | exact (Below.refl _ _).alloc (Nat.le_refl _) _ | exact HB.out⟩
end Go.Proofs.Ytmjfkjdfmpileaa.M
