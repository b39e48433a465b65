/- The law of GoOn, walked. -/
import Derived.Test.YtfefmblinceneaaToA
import Derived.Test.YtfefmblinceneaaToC
import Derived.Test.YtfefmblinceneaaEqA
import Derived.Test.YtfefmblinceneaaEqC
import Derived.Test.YtfefmblinceneaaGoi
import Derived.Test.YtfefmblinceneaaGos
import Derived.Test.YtfefmblinceneaaLwVa
import Derived.Deep.RegionWith
set_option linter.unusedVariables false
set_option linter.unusedSimpArgs false
namespace Go.Proofs.Ytfefmblinceneaa.M
open Go.RowKit

set_option maxRecDepth 100000 in
set_option maxHeartbeats 4000000 in
theorem FnExactGoOn_calls {tStep0 tCase0 tAnswer2 : Nat} (x0 : Action) (x1 : Int) (x2 : List Answer) (w : World) {vs0 : List Value} (h0 : reps w (x0.c tStep0 tCase0) vs0) (hz0 : x0.Zm) (hz1 : -9223372036854775808 ≤ x1 ∧ x1 ≤ 9223372036854775807) {v2 : Value} (h2 : rep w (AnswersT tAnswer2 x2) v2) (hz2 : ∀ x ∈ x2, x.Zm) :
    Calls Try.prog 6 #[.agg vs0.toArray, .int .i64 x1, v2] w fun e w' => e = .returned (.bool true) ∧ Below w.heap.size w w' := by
  have H0 := Asd.mk h0
  obtain ⟨u0_1, rfl, g0_1⟩ := Action.ropen h0
  obtain ⟨A0_1, C0_1, rfl, _, _⟩ := rep_len g0_1
  clear g0_1
  clear h0
  replace hz0 := Asd.mk hz0
  replace hz1 := Asd.mk hz1
  obtain ⟨A2, C2, rfl, _, _⟩ := rep_len h2
  replace h2 := Asd.mk h2
  have H2 := h2
  clear h2
  replace hz2 := Asd.mk hz2
  by_cases q0 : ((x0.bk : Nat) : Int) ≤ 1048576
  rotate_left
  · have e0 : szI (x0.bk) (1048576) = -1 := szI_no q0
    go_enter Try.func6, Try.ntmps6
    go_wp2_with fail
    refine (szAction_calls x0 _ _ (H0.out.below (below_al (Below.refl _ _) _)) (by omega) (by omega) hz0.out).mono ?_
    rintro e w1 ⟨rfl, hb⟩
    have c0_0 : w1.cell? ⟨w.heap.size, 0, none⟩ = some (.int .i64 x0.Cost) := by rw [hb.cell (by first | (simp; done) | (simp; omega))]; first | exact c0_0 | go_simp
    have c0_1 : w1.cell? ⟨w.heap.size, 1, none⟩ = some (.slice A0_1 x0.Steps.length C0_1) := by rw [hb.cell (by first | (simp; done) | (simp; omega))]; first | exact c0_1 | go_simp
    have z0 : w.heap.size < w1.heap.size := by have := hb.size; (try simp at this); omega
    have HB1 := Asd.mk (below_st (below_al (Below.refl _ _) _) hb)
    clear hb
    go_wp2
    go_ret
    exact ⟨rfl, HB1.out⟩
  have e0 : szI (x0.bk) (1048576) = 1048576 - (x0.bk : Nat) := szI_yes q0
  by_cases q2 : ((Answer.bs x2 : Nat) : Int) ≤ 1048576 - (x0.bk : Nat)
  rotate_left
  · have e2 : szI (Answer.bs x2) (1048576 - (x0.bk : Nat)) = -1 := szI_no q2
    go_enter Try.func6, Try.ntmps6
    go_wp2_with fail
    refine (szAction_calls x0 _ _ (H0.out.below (below_al (Below.refl _ _) _)) (by omega) (by omega) hz0.out).mono ?_
    rintro e w1 ⟨rfl, hb⟩
    have c0_0 : w1.cell? ⟨w.heap.size, 0, none⟩ = some (.int .i64 x0.Cost) := by rw [hb.cell (by first | (simp; done) | (simp; omega))]; first | exact c0_0 | go_simp
    have c0_1 : w1.cell? ⟨w.heap.size, 1, none⟩ = some (.slice A0_1 x0.Steps.length C0_1) := by rw [hb.cell (by first | (simp; done) | (simp; omega))]; first | exact c0_1 | go_simp
    have z0 : w.heap.size < w1.heap.size := by have := hb.size; (try simp at this); omega
    have HB1 := Asd.mk (below_st (below_al (Below.refl _ _) _) hb)
    clear hb
    go_wp2_with fail
    refine (szAnswerS_calls x2 _ _ _ (H2.out.below (HB1.out)) (by omega) (by omega) hz2.out).mono ?_
    rintro e w2 ⟨rfl, hb⟩
    replace c0_0 : w2.cell? ⟨w.heap.size, 0, none⟩ = some (.int .i64 x0.Cost) := by rw [hb.cell (by first | (simp; done) | (simp; omega))]; first | exact c0_0 | go_simp
    replace c0_1 : w2.cell? ⟨w.heap.size, 1, none⟩ = some (.slice A0_1 x0.Steps.length C0_1) := by rw [hb.cell (by first | (simp; done) | (simp; omega))]; first | exact c0_1 | go_simp
    replace z0 : w.heap.size < w2.heap.size := by have := hb.size; (try simp at this); omega
    have HB2 := Asd.mk (below_st (HB1.out) hb)
    clear hb
    go_wp2
    go_ret
    exact ⟨rfl, HB2.out⟩
  have e2 : szI (Answer.bs x2) (1048576 - (x0.bk : Nat)) = 1048576 - (x0.bk : Nat) - (Answer.bs x2 : Nat) := szI_yes q2
  obtain ⟨g, gx⟩ : ∃ g, goOn x0 x1 x2 = g := ⟨_, rfl⟩
  go_enter Try.func6, Try.ntmps6
  go_wp2_with fail
  refine (szAction_calls x0 _ _ (H0.out.below (below_al (Below.refl _ _) _)) (by omega) (by omega) hz0.out).mono ?_
  rintro e w1 ⟨rfl, hb⟩
  have c0_0 : w1.cell? ⟨w.heap.size, 0, none⟩ = some (.int .i64 x0.Cost) := by rw [hb.cell (by first | (simp; done) | (simp; omega))]; first | exact c0_0 | go_simp
  have c0_1 : w1.cell? ⟨w.heap.size, 1, none⟩ = some (.slice A0_1 x0.Steps.length C0_1) := by rw [hb.cell (by first | (simp; done) | (simp; omega))]; first | exact c0_1 | go_simp
  have z0 : w.heap.size < w1.heap.size := by have := hb.size; (try simp at this); omega
  have HB1 := Asd.mk (below_st (below_al (Below.refl _ _) _) hb)
  clear hb
  go_wp2_with fail
  refine (szAnswerS_calls x2 _ _ _ (H2.out.below (HB1.out)) (by omega) (by omega) hz2.out).mono ?_
  rintro e w2 ⟨rfl, hb⟩
  replace c0_0 : w2.cell? ⟨w.heap.size, 0, none⟩ = some (.int .i64 x0.Cost) := by rw [hb.cell (by first | (simp; done) | (simp; omega))]; first | exact c0_0 | go_simp
  replace c0_1 : w2.cell? ⟨w.heap.size, 1, none⟩ = some (.slice A0_1 x0.Steps.length C0_1) := by rw [hb.cell (by first | (simp; done) | (simp; omega))]; first | exact c0_1 | go_simp
  replace z0 : w.heap.size < w2.heap.size := by have := hb.size; (try simp at this); omega
  have HB2 := Asd.mk (below_st (HB1.out) hb)
  clear hb
  go_wp2_with fail
  refine (toAction_calls x0 _ (H0.out.below (HB2.out)) (by omega)).mono ?_
  rintro e w3 ⟨us, rfl, ⟨F_, o_, n_, l_⟩, hb⟩
  obtain ⟨v_1, G_1, rfl, p_1, rfl⟩ := Action.oopen o_
  obtain ⟨As0_1, Cs0_1, rfl, _, _⟩ := own_slice p_1
  have rs0 := Asd.mk o_.rep
  clear o_ l_ n_ p_1
  replace c0_0 : w3.cell? ⟨w.heap.size, 0, none⟩ = some (.int .i64 x0.Cost) := by rw [hb.cell (by first | (simp; done) | (simp; omega))]; first | exact c0_0 | go_simp
  replace c0_1 : w3.cell? ⟨w.heap.size, 1, none⟩ = some (.slice A0_1 x0.Steps.length C0_1) := by rw [hb.cell (by first | (simp; done) | (simp; omega))]; first | exact c0_1 | go_simp
  replace z0 : w.heap.size < w3.heap.size := by have := hb.size; (try simp at this); omega
  have HB3 := Asd.mk (below_st (HB2.out) hb)
  clear hb
  go_wp2_with fail
  refine (toAnswerS_calls x2 _ _ (H2.out.below (HB3.out)) (by omega)).mono ?_
  rintro e w4 ⟨v_, rfl, ⟨F_, o_, n_, l_⟩, hb⟩
  obtain ⟨As2, Cs2, rfl, _, _⟩ := own_slice o_
  have rs2 := Asd.mk o_.rep
  clear o_ l_ n_
  replace c0_0 : w4.cell? ⟨w.heap.size, 0, none⟩ = some (.int .i64 x0.Cost) := by rw [hb.cell (by first | (simp; done) | (simp; omega))]; first | exact c0_0 | go_simp
  replace c0_1 : w4.cell? ⟨w.heap.size, 1, none⟩ = some (.slice A0_1 x0.Steps.length C0_1) := by rw [hb.cell (by first | (simp; done) | (simp; omega))]; first | exact c0_1 | go_simp
  replace z0 : w.heap.size < w4.heap.size := by have := hb.size; (try simp at this); omega
  have HB4 := Asd.mk (below_st (HB3.out) hb)
  replace rs0 := Asd.mk (rs0.out.below (below_st (Below.refl _ _) hb))
  clear hb
  go_wp2_with fail
  refine (sGoOn_calls x0 x1 x2 _ _ (rs0.out) (rs2.out) hz0.out.sm hz2.out).mono ?_
  rintro e w5 ⟨rfl, hb⟩
  rw [gx, goneV]
  replace c0_0 : w5.cell? ⟨w.heap.size, 0, none⟩ = some (.int .i64 x0.Cost) := by rw [hb.cell (by first | (simp; done) | (simp; omega))]; first | exact c0_0 | go_simp
  replace c0_1 : w5.cell? ⟨w.heap.size, 1, none⟩ = some (.slice A0_1 x0.Steps.length C0_1) := by rw [hb.cell (by first | (simp; done) | (simp; omega))]; first | exact c0_1 | go_simp
  replace z0 : w.heap.size < w5.heap.size := by have := hb.size; (try simp at this); omega
  have HB5 := Asd.mk (below_st (HB4.out) hb)
  replace rs0 := Asd.mk (rs0.out.below (below_st (Below.refl _ _) hb))
  replace rs2 := Asd.mk (rs2.out.below (below_st (Below.refl _ _) hb))
  clear hb
  go_wp2_with fail
  refine (toAction_calls x0 _ (H0.out.below (below_al (HB5.out) _)) (by omega)).mono ?_
  rintro e w6 ⟨us, rfl, ⟨F_, o_, n_, l_⟩, hb⟩
  obtain ⟨v_1, G_1, rfl, p_1, rfl⟩ := Action.oopen o_
  obtain ⟨Ai0_1, Ci0_1, rfl, _, _⟩ := own_slice p_1
  have ri0 := Asd.mk o_.rep
  clear o_ l_ n_ p_1
  replace c0_0 : w6.cell? ⟨w.heap.size, 0, none⟩ = some (.int .i64 x0.Cost) := by rw [hb.cell (by first | (simp; done) | (simp; omega))]; first | exact c0_0 | go_simp
  replace c0_1 : w6.cell? ⟨w.heap.size, 1, none⟩ = some (.slice A0_1 x0.Steps.length C0_1) := by rw [hb.cell (by first | (simp; done) | (simp; omega))]; first | exact c0_1 | go_simp
  have c1_0 : w6.cell? ⟨w5.heap.size, 0, none⟩ = some (.int .i64 g.Code) := by rw [hb.cell (by first | (simp; done) | (simp; omega))]; first | exact c1_0 | go_simp
  have c1_1 : w6.cell? ⟨w5.heap.size, 1, none⟩ = some (.bool g.Over) := by rw [hb.cell (by first | (simp; done) | (simp; omega))]; first | exact c1_1 | go_simp
  have c1_2 : w6.cell? ⟨w5.heap.size, 2, none⟩ = some (.int .i64 g.At) := by rw [hb.cell (by first | (simp; done) | (simp; omega))]; first | exact c1_2 | go_simp
  have c1_3 : w6.cell? ⟨w5.heap.size, 3, none⟩ = some (.string g.Text) := by rw [hb.cell (by first | (simp; done) | (simp; omega))]; first | exact c1_3 | go_simp
  replace z0 : w.heap.size < w6.heap.size := by have := hb.size; (try simp at this); omega
  have z1 : w5.heap.size < w6.heap.size := by have := hb.size; (try simp at this); omega
  have HB6 := Asd.mk (below_st (below_al (HB5.out) _) hb)
  clear hb
  go_wp2_with fail
  refine (toAnswerS_calls x2 _ _ (H2.out.below (below_al (HB6.out) _)) (by omega)).mono ?_
  rintro e w7 ⟨v_, rfl, ⟨F_, o_, n_, l_⟩, hb⟩
  obtain ⟨Ai2, Ci2, rfl, _, _⟩ := own_slice o_
  have ri2 := Asd.mk o_.rep
  clear o_ l_ n_
  replace c0_0 : w7.cell? ⟨w.heap.size, 0, none⟩ = some (.int .i64 x0.Cost) := by rw [hb.cell (by first | (simp; done) | (simp; omega))]; first | exact c0_0 | go_simp
  replace c0_1 : w7.cell? ⟨w.heap.size, 1, none⟩ = some (.slice A0_1 x0.Steps.length C0_1) := by rw [hb.cell (by first | (simp; done) | (simp; omega))]; first | exact c0_1 | go_simp
  replace c1_0 : w7.cell? ⟨w5.heap.size, 0, none⟩ = some (.int .i64 g.Code) := by rw [hb.cell (by first | (simp; done) | (simp; omega))]; first | exact c1_0 | go_simp
  replace c1_1 : w7.cell? ⟨w5.heap.size, 1, none⟩ = some (.bool g.Over) := by rw [hb.cell (by first | (simp; done) | (simp; omega))]; first | exact c1_1 | go_simp
  replace c1_2 : w7.cell? ⟨w5.heap.size, 2, none⟩ = some (.int .i64 g.At) := by rw [hb.cell (by first | (simp; done) | (simp; omega))]; first | exact c1_2 | go_simp
  replace c1_3 : w7.cell? ⟨w5.heap.size, 3, none⟩ = some (.string g.Text) := by rw [hb.cell (by first | (simp; done) | (simp; omega))]; first | exact c1_3 | go_simp
  have c2_0 : w7.cell? ⟨w6.heap.size, 0, none⟩ = some (.int .i64 x0.Cost) := by rw [hb.cell (by first | (simp; done) | (simp; omega))]; first | exact c2_0 | go_simp
  have c2_1 : w7.cell? ⟨w6.heap.size, 1, none⟩ = some (.slice Ai0_1 x0.Steps.length Ci0_1) := by rw [hb.cell (by first | (simp; done) | (simp; omega))]; first | exact c2_1 | go_simp
  replace z0 : w.heap.size < w7.heap.size := by have := hb.size; (try simp at this); omega
  replace z1 : w5.heap.size < w7.heap.size := by have := hb.size; (try simp at this); omega
  have z2 : w6.heap.size < w7.heap.size := by have := hb.size; (try simp at this); omega
  have HB7 := Asd.mk (below_st (below_al (HB6.out) _) hb)
  replace ri0 := Asd.mk (ri0.out.below (below_st (below_al (Below.refl _ _) _) hb))
  clear hb
  go_wp2_with fail
  refine (GoOn_calls x0 x1 x2 _ _ (ri0.out) (ri2.out) hz0.out.sm hz2.out).mono ?_
  rintro e w8 ⟨rfl, hb⟩
  rw [gx, goneV]
  replace c0_0 : w8.cell? ⟨w.heap.size, 0, none⟩ = some (.int .i64 x0.Cost) := by rw [hb.cell (by first | (simp; done) | (simp; omega))]; first | exact c0_0 | go_simp
  replace c0_1 : w8.cell? ⟨w.heap.size, 1, none⟩ = some (.slice A0_1 x0.Steps.length C0_1) := by rw [hb.cell (by first | (simp; done) | (simp; omega))]; first | exact c0_1 | go_simp
  replace c1_0 : w8.cell? ⟨w5.heap.size, 0, none⟩ = some (.int .i64 g.Code) := by rw [hb.cell (by first | (simp; done) | (simp; omega))]; first | exact c1_0 | go_simp
  replace c1_1 : w8.cell? ⟨w5.heap.size, 1, none⟩ = some (.bool g.Over) := by rw [hb.cell (by first | (simp; done) | (simp; omega))]; first | exact c1_1 | go_simp
  replace c1_2 : w8.cell? ⟨w5.heap.size, 2, none⟩ = some (.int .i64 g.At) := by rw [hb.cell (by first | (simp; done) | (simp; omega))]; first | exact c1_2 | go_simp
  replace c1_3 : w8.cell? ⟨w5.heap.size, 3, none⟩ = some (.string g.Text) := by rw [hb.cell (by first | (simp; done) | (simp; omega))]; first | exact c1_3 | go_simp
  replace c2_0 : w8.cell? ⟨w6.heap.size, 0, none⟩ = some (.int .i64 x0.Cost) := by rw [hb.cell (by first | (simp; done) | (simp; omega))]; first | exact c2_0 | go_simp
  replace c2_1 : w8.cell? ⟨w6.heap.size, 1, none⟩ = some (.slice Ai0_1 x0.Steps.length Ci0_1) := by rw [hb.cell (by first | (simp; done) | (simp; omega))]; first | exact c2_1 | go_simp
  replace z0 : w.heap.size < w8.heap.size := by have := hb.size; (try simp at this); omega
  replace z1 : w5.heap.size < w8.heap.size := by have := hb.size; (try simp at this); omega
  replace z2 : w6.heap.size < w8.heap.size := by have := hb.size; (try simp at this); omega
  have HB8 := Asd.mk (below_st (HB7.out) hb)
  replace ri0 := Asd.mk (ri0.out.below (below_st (Below.refl _ _) hb))
  replace ri2 := Asd.mk (ri2.out.below (below_st (Below.refl _ _) hb))
  clear hb
  have y_0 : eqB (g) (g) = true := eqB_yes rfl
  go_wp2_with fail
  refine (eqGone_calls (g) (g) _ (Gone.rmk _) (Gone.rmk _)).mono ?_
  rintro e w9 ⟨rfl, hb⟩
  replace c0_0 : w9.cell? ⟨w.heap.size, 0, none⟩ = some (.int .i64 x0.Cost) := by rw [hb.cell (by first | (simp; done) | (simp; omega))]; first | exact c0_0 | go_simp
  replace c0_1 : w9.cell? ⟨w.heap.size, 1, none⟩ = some (.slice A0_1 x0.Steps.length C0_1) := by rw [hb.cell (by first | (simp; done) | (simp; omega))]; first | exact c0_1 | go_simp
  replace c1_0 : w9.cell? ⟨w5.heap.size, 0, none⟩ = some (.int .i64 g.Code) := by rw [hb.cell (by first | (simp; done) | (simp; omega))]; first | exact c1_0 | go_simp
  replace c1_1 : w9.cell? ⟨w5.heap.size, 1, none⟩ = some (.bool g.Over) := by rw [hb.cell (by first | (simp; done) | (simp; omega))]; first | exact c1_1 | go_simp
  replace c1_2 : w9.cell? ⟨w5.heap.size, 2, none⟩ = some (.int .i64 g.At) := by rw [hb.cell (by first | (simp; done) | (simp; omega))]; first | exact c1_2 | go_simp
  replace c1_3 : w9.cell? ⟨w5.heap.size, 3, none⟩ = some (.string g.Text) := by rw [hb.cell (by first | (simp; done) | (simp; omega))]; first | exact c1_3 | go_simp
  replace c2_0 : w9.cell? ⟨w6.heap.size, 0, none⟩ = some (.int .i64 x0.Cost) := by rw [hb.cell (by first | (simp; done) | (simp; omega))]; first | exact c2_0 | go_simp
  replace c2_1 : w9.cell? ⟨w6.heap.size, 1, none⟩ = some (.slice Ai0_1 x0.Steps.length Ci0_1) := by rw [hb.cell (by first | (simp; done) | (simp; omega))]; first | exact c2_1 | go_simp
  have c3_0 : w9.cell? ⟨w8.heap.size, 0, none⟩ = some (.int .i64 g.Code) := by rw [hb.cell (by first | (simp; done) | (simp; omega))]; first | exact c3_0 | go_simp
  have c3_1 : w9.cell? ⟨w8.heap.size, 1, none⟩ = some (.bool g.Over) := by rw [hb.cell (by first | (simp; done) | (simp; omega))]; first | exact c3_1 | go_simp
  have c3_2 : w9.cell? ⟨w8.heap.size, 2, none⟩ = some (.int .i64 g.At) := by rw [hb.cell (by first | (simp; done) | (simp; omega))]; first | exact c3_2 | go_simp
  have c3_3 : w9.cell? ⟨w8.heap.size, 3, none⟩ = some (.string g.Text) := by rw [hb.cell (by first | (simp; done) | (simp; omega))]; first | exact c3_3 | go_simp
  replace z0 : w.heap.size < w9.heap.size := by have := hb.size; (try simp at this); omega
  replace z1 : w5.heap.size < w9.heap.size := by have := hb.size; (try simp at this); omega
  replace z2 : w6.heap.size < w9.heap.size := by have := hb.size; (try simp at this); omega
  have z3 : w8.heap.size < w9.heap.size := by have := hb.size; (try simp at this); omega
  have HB9 := Asd.mk (below_st (below_al (HB8.out) _) hb)
  replace ri0 := Asd.mk (ri0.out.below (below_st (below_al (Below.refl _ _) _) hb))
  replace ri2 := Asd.mk (ri2.out.below (below_st (below_al (Below.refl _ _) _) hb))
  clear hb
  have yx_0 : eqB x0 x0 = true := eqB_yes rfl
  have yx_2 : eqB x2 x2 = true := eqB_yes rfl
  have hkeep : ∀ W W', Below W.heap.size W W' → (Below w9.heap.size w9 W ∧ W.cell? ⟨w.heap.size, 0, none⟩ = some (.int .i64 x0.Cost) ∧ W.cell? ⟨w.heap.size, 1, none⟩ = some (.slice A0_1 x0.Steps.length C0_1) ∧ W.cell? ⟨w5.heap.size, 0, none⟩ = some (.int .i64 g.Code) ∧ W.cell? ⟨w5.heap.size, 1, none⟩ = some (.bool g.Over) ∧ W.cell? ⟨w5.heap.size, 2, none⟩ = some (.int .i64 g.At) ∧ W.cell? ⟨w5.heap.size, 3, none⟩ = some (.string g.Text) ∧ W.cell? ⟨w6.heap.size, 0, none⟩ = some (.int .i64 x0.Cost) ∧ W.cell? ⟨w6.heap.size, 1, none⟩ = some (.slice Ai0_1 x0.Steps.length Ci0_1) ∧ W.cell? ⟨w8.heap.size, 0, none⟩ = some (.int .i64 g.Code) ∧ W.cell? ⟨w8.heap.size, 1, none⟩ = some (.bool g.Over) ∧ W.cell? ⟨w8.heap.size, 2, none⟩ = some (.int .i64 g.At) ∧ W.cell? ⟨w8.heap.size, 3, none⟩ = some (.string g.Text)) → (Below w9.heap.size w9 W' ∧ W'.cell? ⟨w.heap.size, 0, none⟩ = some (.int .i64 x0.Cost) ∧ W'.cell? ⟨w.heap.size, 1, none⟩ = some (.slice A0_1 x0.Steps.length C0_1) ∧ W'.cell? ⟨w5.heap.size, 0, none⟩ = some (.int .i64 g.Code) ∧ W'.cell? ⟨w5.heap.size, 1, none⟩ = some (.bool g.Over) ∧ W'.cell? ⟨w5.heap.size, 2, none⟩ = some (.int .i64 g.At) ∧ W'.cell? ⟨w5.heap.size, 3, none⟩ = some (.string g.Text) ∧ W'.cell? ⟨w6.heap.size, 0, none⟩ = some (.int .i64 x0.Cost) ∧ W'.cell? ⟨w6.heap.size, 1, none⟩ = some (.slice Ai0_1 x0.Steps.length Ci0_1) ∧ W'.cell? ⟨w8.heap.size, 0, none⟩ = some (.int .i64 g.Code) ∧ W'.cell? ⟨w8.heap.size, 1, none⟩ = some (.bool g.Over) ∧ W'.cell? ⟨w8.heap.size, 2, none⟩ = some (.int .i64 g.At) ∧ W'.cell? ⟨w8.heap.size, 3, none⟩ = some (.string g.Text)) := by
    rintro W W' hb ⟨q_0, q_1, q_2, q_3, q_4, q_5, q_6, q_7, q_8, q_9, q_10, q_11, q_12⟩
    exact ⟨below_st q_0 hb, cell_below hb q_1, cell_below hb q_2, cell_below hb q_3, cell_below hb q_4, cell_below hb q_5, cell_below hb q_6, cell_below hb q_7, cell_below hb q_8, cell_below hb q_9, cell_below hb q_10, cell_below hb q_11, cell_below hb q_12⟩
  replace hkeep := Asd.mk hkeep
  have hbs : Below w9.heap.size w9 w9.drew := (Below.refl _ _).drew
  go_wp2
  go_region_held3 (fun W => Below w9.heap.size w9 W ∧ W.cell? ⟨w.heap.size, 0, none⟩ = some (.int .i64 x0.Cost) ∧ W.cell? ⟨w.heap.size, 1, none⟩ = some (.slice A0_1 x0.Steps.length C0_1) ∧ W.cell? ⟨w5.heap.size, 0, none⟩ = some (.int .i64 g.Code) ∧ W.cell? ⟨w5.heap.size, 1, none⟩ = some (.bool g.Over) ∧ W.cell? ⟨w5.heap.size, 2, none⟩ = some (.int .i64 g.At) ∧ W.cell? ⟨w5.heap.size, 3, none⟩ = some (.string g.Text) ∧ W.cell? ⟨w6.heap.size, 0, none⟩ = some (.int .i64 x0.Cost) ∧ W.cell? ⟨w6.heap.size, 1, none⟩ = some (.slice Ai0_1 x0.Steps.length Ci0_1) ∧ W.cell? ⟨w8.heap.size, 0, none⟩ = some (.int .i64 g.Code) ∧ W.cell? ⟨w8.heap.size, 1, none⟩ = some (.bool g.Over) ∧ W.cell? ⟨w8.heap.size, 2, none⟩ = some (.int .i64 g.At) ∧ W.cell? ⟨w8.heap.size, 3, none⟩ = some (.string g.Text)) (go_keep)
    (first | (go_at_call 9; refine (toAction_calls x0 _ (H0.out.below (below_st HB9.out (by assumption))) (by omega)).mono ?_; rintro e W6 ⟨us, rfl, ⟨F_, o_, n_, l_⟩, hb⟩; obtain ⟨v_1, G_1, rfl, p_1, rfl⟩ := Action.oopen o_; obtain ⟨D_1, d_1, rfl, _, _⟩ := own_slice p_1; have r6 := Asd.mk o_.rep; obtain ⟨s_0, s_1, s_2, s_3, s_4, s_5, s_6, s_7, s_8, s_9, s_10, s_11, s_12⟩ := hkeep.out _ _ hb ⟨by assumption, by first | assumption | exact c0_0, by first | assumption | exact c0_1, by first | assumption | exact c1_0, by first | assumption | exact c1_1, by first | assumption | exact c1_2, by first | assumption | exact c1_3, by first | assumption | exact c2_0, by first | assumption | exact c2_1, by first | assumption | exact c3_0, by first | assumption | exact c3_1, by first | assumption | exact c3_2, by first | assumption | exact c3_3⟩; clear hb o_ l_ p_1) | (go_at_call 11; refine (eqAction_calls x0 x0 _ (ri0.out.below (by assumption)) r6.out).mono ?_; rintro e W7 ⟨rfl, hb⟩; obtain ⟨s_0, s_1, s_2, s_3, s_4, s_5, s_6, s_7, s_8, s_9, s_10, s_11, s_12⟩ := hkeep.out _ _ hb ⟨by assumption, by first | assumption | exact c0_0, by first | assumption | exact c0_1, by first | assumption | exact c1_0, by first | assumption | exact c1_1, by first | assumption | exact c1_2, by first | assumption | exact c1_3, by first | assumption | exact c2_0, by first | assumption | exact c2_1, by first | assumption | exact c3_0, by first | assumption | exact c3_1, by first | assumption | exact c3_2, by first | assumption | exact c3_3⟩; clear hb))
  replace c0_0 := s_1
  replace c0_1 := s_2
  replace c1_0 := s_3
  replace c1_1 := s_4
  replace c1_2 := s_5
  replace c1_3 := s_6
  replace c2_0 := s_7
  replace c2_1 := s_8
  replace c3_0 := s_9
  replace c3_1 := s_10
  replace c3_2 := s_11
  replace c3_3 := s_12
  replace hbs := below_st HB9.out s_0
  replace ri0 := Asd.mk (ri0.out.below s_0)
  replace ri2 := Asd.mk (ri2.out.below s_0)
  clear hkeep s_0 s_1 s_2 s_3 s_4 s_5 s_6 s_7 s_8 s_9 s_10 s_11 s_12 r6
  have HB_0 := Asd.mk hbs
  go_wp2_with fail
  refine (toAnswerS_calls x2 _ _ (H2.out.below (HB_0.out)) (by omega)).mono ?_
  rintro e w10 ⟨v_, rfl, ⟨F_, o_, n_, l_⟩, hb⟩
  obtain ⟨Ae2, Ce2, rfl, _, _⟩ := own_slice o_
  have re2 := Asd.mk o_.rep
  clear o_ l_ n_
  have HB10 := Asd.mk (below_st (HB_0.out) hb)
  replace ri0 := Asd.mk (ri0.out.below (below_st (Below.refl _ _) hb))
  replace ri2 := Asd.mk (ri2.out.below (below_st (Below.refl _ _) hb))
  clear hb
  go_wp2_with fail
  refine (eqAnswerS_calls x2 x2 _ _ _ ri2.out re2.out).mono ?_
  rintro e w11 ⟨rfl, hb⟩
  have HB11 := Asd.mk (below_st (HB10.out) hb)
  replace ri0 := Asd.mk (ri0.out.below (below_st (Below.refl _ _) hb))
  replace ri2 := Asd.mk (ri2.out.below (below_st (Below.refl _ _) hb))
  replace re2 := Asd.mk (re2.out.below (below_st (Below.refl _ _) hb))
  clear hb
  go_wp2
  go_ret
  exact ⟨rfl, HB11.out⟩
end Go.Proofs.Ytfefmblinceneaa.M
