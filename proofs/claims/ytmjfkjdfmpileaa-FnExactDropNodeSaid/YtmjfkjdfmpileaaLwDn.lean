/- The law of DropNode, walked. -/
import Derived.Test.YtmjfkjdfmpileaaToB
import Derived.Test.YtmjfkjdfmpileaaEqB
import Derived.Test.YtmjfkjdfmpileaaSzB
import Derived.Test.YtmjfkjdfmpileaaMkB
import Derived.Test.YtmjfkjdfmpileaaSdr
import Derived.Test.YtmjfkjdfmpileaaDrp
import Derived.Test.YtmjfkjdfmpileaaCtB
import Derived.Deep.RegionWith
import Derived.Deep.RegionHeld3
set_option linter.unusedVariables false
set_option linter.unusedSimpArgs false
namespace Go.Proofs.Ytmjfkjdfmpileaa.M
open Go.RowKit

set_option maxRecDepth 100000 in
set_option maxHeartbeats 4000000 in
theorem FnExactDropNode_calls {tNode0 tStep0 tCase0 : Nat} (x0 : Web) (x1 : ByteArray) (w : World) {vs0 : List Value} (h0 : reps w (x0.c tNode0 tStep0 tCase0) vs0) (hz0 : x0.Zm) (hz1 : x1.size ≤ 9223372036854775807) :
    Calls Try.prog 3 #[.agg vs0.toArray, .string x1] w fun e w' => e = .returned (.bool true) ∧ Below w.heap.size w w' := by
  have H0 := Asd.mk h0
  obtain ⟨u0_0, rfl, g0_0⟩ := Web.ropen h0
  obtain ⟨A0_0, C0_0, rfl, _, _⟩ := rep_len g0_0
  clear g0_0
  clear h0
  replace hz0 := Asd.mk hz0
  replace hz1 := Asd.mk hz1
  by_cases qs1 : ((x1.size : Nat) : Int) ≤ 1048576
  rotate_left
  · replace qs1 : (1048576 : Int) < (x1.size : Nat) := by omega
    have hs1 := hz1.out
    go_enter Try.func3, Try.ntmps3
    go_wp2
    go_ret
    exact ⟨rfl, below_al (Below.refl _ _) _⟩
  have hs1 := hz1.out
  have qn1 : ¬(1048576 : Int) < (x1.size : Nat) := by omega
  by_cases q0 : ((x0.bk : Nat) : Int) ≤ 1048576
  rotate_left
  · have e0 : szI (x0.bk) (1048576) = -1 := szI_no q0
    go_enter Try.func3, Try.ntmps3
    go_wp2_with fail
    refine (szWeb_calls x0 _ _ (H0.out.below (below_al (Below.refl _ _) _)) (by omega) (by omega) hz0.out).mono ?_
    rintro e w1 ⟨rfl, hb⟩
    have hF := Far.of_below hb
    have zs1 : w.heap.size + 1 ≤ w1.heap.size := by have := hF.size; (try simp at this); omega
    have c0_0 : w1.cell? ⟨w.heap.size, 0, none⟩ = some (.slice A0_0 x0.Nodes.length C0_0) := by rw [hF.cell (by first | (simp; done) | (simp; omega) | omega) (by omega)]; first | exact c0_0 | go_simp
    have z0 : w.heap.size < w1.heap.size := by omega
    have HB_1 := Asd.mk (Far.trans3 (below_al (Below.refl _ _) _) hF (by omega))
    clear hF hb
    go_wp2
    go_ret
    exact ⟨rfl, HB_1.out⟩
  have e0 : szI (x0.bk) (1048576) = 1048576 - (x0.bk : Nat) := szI_yes q0
  obtain ⟨g, gx⟩ : ∃ g, dropWeb x0 x1 = g := ⟨_, rfl⟩
  obtain ⟨KA0, ka0⟩ : ∃ K, 1 + cntl (x0.c 46 108 112) = K := ⟨_, rfl⟩
  have la0 : 1 ≤ KA0 := by omega
  obtain ⟨KG0, kg0⟩ : ∃ K, 1 + cntl (g.1.c 46 108 112) = K := ⟨_, rfl⟩
  have lg0 : 1 ≤ KG0 := by omega
  have hc_ : cntl (x0.c 46 108 112) ≤ 6 * x0.bk := Web.cnt_le x0
  have hg_ : cntl (g.1.c 46 108 112) ≤ 6 * x0.bk := by rw [← gx]; exact dropWeb_cnt x0 x1
  have hKA : KA0 ≤ 1000000000 := by omega
  have hKG : KG0 ≤ 1000000000 := by omega
  replace ka0 := Asd.mk ka0
  replace kg0 := Asd.mk kg0
  clear hc_
  go_enter Try.func3, Try.ntmps3
  go_wp2_with fail
  refine (szWeb_calls x0 _ _ (H0.out.below (below_al (Below.refl _ _) _)) (by omega) (by omega) hz0.out).mono ?_
  rintro e w1 ⟨rfl, hb⟩
  have hF := Far.of_below hb
  have zs1 : w.heap.size + 1 ≤ w1.heap.size := by have := hF.size; (try simp at this); omega
  have c0_0 : w1.cell? ⟨w.heap.size, 0, none⟩ = some (.slice A0_0 x0.Nodes.length C0_0) := by rw [hF.cell (by first | (simp; done) | (simp; omega) | omega) (by omega)]; first | exact c0_0 | go_simp
  have z0 : w.heap.size < w1.heap.size := by omega
  have HB_1 := Asd.mk (Far.trans3 (below_al (Below.refl _ _) _) hF (by omega))
  clear hF hb
  go_wp2_with fail
  refine (toWeb_calls x0 _ (H0.out.below (HB_1.out)) (by omega)).mono ?_
  rintro e w2 ⟨us, rfl, hM, hb⟩
  have hF := Far.of_below hb
  have I_s0 : Asd (Iv (w1.heap.size) w2.heap.size w2 (x0.c 46 108 112) us) := Asd.mk ((Iv.of_mades hM).mono (by simp) (Nat.le_refl _))
  obtain ⟨F_, o_, _, _⟩ := hM
  obtain ⟨v_0, G_0, rfl, p_0, rfl⟩ := Web.oopen o_
  obtain ⟨As0_0, Cs0_0, rfl, _, _⟩ := own_slice p_0
  clear o_ p_0
  have zs2 : w1.heap.size ≤ w2.heap.size := by have := hF.size; (try simp at this); omega
  replace c0_0 : w2.cell? ⟨w.heap.size, 0, none⟩ = some (.slice A0_0 x0.Nodes.length C0_0) := by rw [hF.cell (by first | (simp; done) | (simp; omega) | omega) (by omega)]; first | exact c0_0 | go_simp
  replace z0 : w.heap.size < w2.heap.size := by omega
  have HB_2 := Asd.mk (Far.trans3 (HB_1.out) hF (by omega))
  clear hF hb
  go_wp2_with fail
  refine (sDropNode_calls x0 x1 _ (I_s0.out.reps.below (Below.refl _ _)) (Web.zsm hz0.out)).mono ?_
  rw [gx]
  rintro e w3 ⟨v_, rfl, hL, hb⟩
  have hF := Far.of_below hb
  obtain ⟨Aw0_0, Cw0_0, rfl, _, _⟩ := hL.slice
  have I_w0 : Asd (Iv (w2.heap.size) w3.heap.size w3 (g.1.c 46 108 112) _) := Asd.mk ((Iv.of_lie hL).mono (by simp) (Nat.le_refl _))
  clear hL
  have zs3 : w2.heap.size ≤ w3.heap.size := by have := hF.size; (try simp at this); omega
  replace c0_0 : w3.cell? ⟨w.heap.size, 0, none⟩ = some (.slice A0_0 x0.Nodes.length C0_0) := by rw [hF.cell (by first | (simp; done) | (simp; omega) | omega) (by omega)]; first | exact c0_0 | go_simp
  replace z0 : w.heap.size < w3.heap.size := by omega
  have HB_3 := Asd.mk (Far.trans3 (HB_2.out) hF (by omega))
  replace I_s0 := Asd.mk ((I_s0.out.below (Below.refl _ _)).far hF (by omega))
  clear hF hb
  clear I_s0
  go_wp2_with fail
  refine (toWeb_calls x0 _ (H0.out.below (below_al (HB_3.out) _)) (by omega)).mono ?_
  rintro e w4 ⟨us, rfl, hM, hb⟩
  have hF := Far.of_below hb
  have I_i0 : Asd (Iv (w3.heap.size + 1) w4.heap.size w4 (x0.c 46 108 112) us) := Asd.mk ((Iv.of_mades hM).mono (by simp) (Nat.le_refl _))
  obtain ⟨F_, o_, _, _⟩ := hM
  obtain ⟨v_0, G_0, rfl, p_0, rfl⟩ := Web.oopen o_
  obtain ⟨Ai0_0, Ci0_0, rfl, _, _⟩ := own_slice p_0
  clear o_ p_0
  have zs4 : w3.heap.size + 1 ≤ w4.heap.size := by have := hF.size; (try simp at this); omega
  replace c0_0 : w4.cell? ⟨w.heap.size, 0, none⟩ = some (.slice A0_0 x0.Nodes.length C0_0) := by rw [hF.cell (by first | (simp; done) | (simp; omega) | omega) (by omega)]; first | exact c0_0 | go_simp
  have c1_0 : w4.cell? ⟨w3.heap.size, 0, none⟩ = some (.slice Aw0_0 g.1.Nodes.length Cw0_0) := by rw [hF.cell (by first | (simp; done) | (simp; omega) | omega) (by omega)]; first | exact c1_0 | go_simp
  replace z0 : w.heap.size < w4.heap.size := by omega
  have z1 : w3.heap.size < w4.heap.size := by omega
  have HB_4 := Asd.mk (Far.trans3 (below_al (HB_3.out) _) hF (by omega))
  replace I_w0 := Asd.mk ((I_w0.out.below (below_al (Below.refl _ _) _)).far hF (by omega))
  clear hF hb
  go_wp2_with fail
  refine (DropNode_calls x0 x1 _ (I_i0.out.reps.below (below_al (Below.refl _ _) _)) (Web.zsm hz0.out)).mono ?_
  rw [gx]
  rintro e w5 ⟨v_, rfl, hL, hb⟩
  have hF := Far.of_below hb
  obtain ⟨Ag0_0, Cg0_0, rfl, _, _⟩ := hL.slice
  have I_g0 : Asd (Iv (w4.heap.size + 1) w5.heap.size w5 (g.1.c 46 108 112) _) := Asd.mk ((Iv.of_lie hL).mono (by simp) (Nat.le_refl _))
  clear hL
  have zs5 : w4.heap.size + 1 ≤ w5.heap.size := by have := hF.size; (try simp at this); omega
  replace c0_0 : w5.cell? ⟨w.heap.size, 0, none⟩ = some (.slice A0_0 x0.Nodes.length C0_0) := by rw [hF.cell (by first | (simp; done) | (simp; omega) | omega) (by omega)]; first | exact c0_0 | go_simp
  replace c1_0 : w5.cell? ⟨w3.heap.size, 0, none⟩ = some (.slice Aw0_0 g.1.Nodes.length Cw0_0) := by rw [hF.cell (by first | (simp; done) | (simp; omega) | omega) (by omega)]; first | exact c1_0 | go_simp
  have c2_0 : w5.cell? ⟨w4.heap.size, 0, none⟩ = some (.slice Ai0_0 x0.Nodes.length Ci0_0) := by rw [hF.cell (by first | (simp; done) | (simp; omega) | omega) (by omega)]; first | exact c2_0 | go_simp
  replace z0 : w.heap.size < w5.heap.size := by omega
  replace z1 : w3.heap.size < w5.heap.size := by omega
  have z2 : w4.heap.size < w5.heap.size := by omega
  have HB_5 := Asd.mk (Far.trans3 (below_al (HB_4.out) _) hF (by omega))
  replace I_w0 := Asd.mk ((I_w0.out.below (below_al (Below.refl _ _) _)).far hF (by omega))
  replace I_i0 := Asd.mk ((I_i0.out.below (below_al (Below.refl _ _) _)).far hF (by omega))
  clear hF hb
  have y_0 : eqB (g.1) (g.1) = true := eqB_yes rfl
  go_wp2_with fail
  refine (eqWeb_calls (g.1) (g.1) _ (I_g0.out.reps.below (below_al (Below.refl _ _) _)) (I_w0.out.reps.below (below_al (Below.refl _ _) _))).mono ?_
  rintro e w6 ⟨rfl, hb⟩
  have hF := Far.of_below hb
  have zs6 : w5.heap.size + 1 ≤ w6.heap.size := by have := hF.size; (try simp at this); omega
  replace c0_0 : w6.cell? ⟨w.heap.size, 0, none⟩ = some (.slice A0_0 x0.Nodes.length C0_0) := by rw [hF.cell (by first | (simp; done) | (simp; omega) | omega) (by omega)]; first | exact c0_0 | go_simp
  replace c1_0 : w6.cell? ⟨w3.heap.size, 0, none⟩ = some (.slice Aw0_0 g.1.Nodes.length Cw0_0) := by rw [hF.cell (by first | (simp; done) | (simp; omega) | omega) (by omega)]; first | exact c1_0 | go_simp
  replace c2_0 : w6.cell? ⟨w4.heap.size, 0, none⟩ = some (.slice Ai0_0 x0.Nodes.length Ci0_0) := by rw [hF.cell (by first | (simp; done) | (simp; omega) | omega) (by omega)]; first | exact c2_0 | go_simp
  have c3_0 : w6.cell? ⟨w5.heap.size, 0, none⟩ = some (.slice Ag0_0 g.1.Nodes.length Cg0_0) := by rw [hF.cell (by first | (simp; done) | (simp; omega) | omega) (by omega)]; first | exact c3_0 | go_simp
  replace z0 : w.heap.size < w6.heap.size := by omega
  replace z1 : w3.heap.size < w6.heap.size := by omega
  replace z2 : w4.heap.size < w6.heap.size := by omega
  have z3 : w5.heap.size < w6.heap.size := by omega
  have HB_6 := Asd.mk (Far.trans3 (below_al (HB_5.out) _) hF (by omega))
  replace I_w0 := Asd.mk ((I_w0.out.below (below_al (Below.refl _ _) _)).far hF (by omega))
  replace I_i0 := Asd.mk ((I_i0.out.below (below_al (Below.refl _ _) _)).far hF (by omega))
  replace I_g0 := Asd.mk ((I_g0.out.below (below_al (Below.refl _ _) _)).far hF (by omega))
  clear hF hb
  have y_1 : eqB (g.2) (g.2) = true := eqB_yes rfl
  have yx_0 : eqB x0 x0 = true := eqB_yes rfl
  have hkeep : ∀ W W', Below W.heap.size W W' → (Below w6.heap.size w6 W ∧ W.cell? ⟨w.heap.size, 0, none⟩ = some (.slice A0_0 x0.Nodes.length C0_0) ∧ W.cell? ⟨w4.heap.size, 0, none⟩ = some (.slice Ai0_0 x0.Nodes.length Ci0_0)) → (Below w6.heap.size w6 W' ∧ W'.cell? ⟨w.heap.size, 0, none⟩ = some (.slice A0_0 x0.Nodes.length C0_0) ∧ W'.cell? ⟨w4.heap.size, 0, none⟩ = some (.slice Ai0_0 x0.Nodes.length Ci0_0)) := by
    rintro W W' hb ⟨q_0, q_1, q_2⟩
    exact ⟨below_st q_0 hb, cell_below hb q_1, cell_below hb q_2⟩
  replace hkeep := Asd.mk hkeep
  have hbs : Below w6.heap.size w6 w6.drew := (Below.refl _ _).drew
  go_wp2
  go_region_held3 (fun W => Below w6.heap.size w6 W ∧ W.cell? ⟨w.heap.size, 0, none⟩ = some (.slice A0_0 x0.Nodes.length C0_0) ∧ W.cell? ⟨w4.heap.size, 0, none⟩ = some (.slice Ai0_0 x0.Nodes.length Ci0_0)) (go_keep)
    (first | (go_at_call 9; refine (toWeb_calls x0 _ (H0.out.below (below_st HB_6.out (by assumption))) (by omega)).mono ?_; rintro e W6 ⟨us, rfl, ⟨F_, o_, n_, l_⟩, hb⟩; obtain ⟨v_0, G_0, rfl, p_0, rfl⟩ := Web.oopen o_; obtain ⟨D_0, d_0, rfl, _, _⟩ := own_slice p_0; have r6 := Asd.mk o_.rep; obtain ⟨s_0, s_1, s_2⟩ := hkeep.out _ _ hb ⟨by assumption, by first | assumption | exact c0_0, by first | assumption | exact c2_0⟩; clear hb o_ l_ p_0) | (go_at_call 11; refine (eqWeb_calls x0 x0 _ (I_i0.out.reps.below (by assumption)) r6.out).mono ?_; rintro e w7 ⟨rfl, hb⟩; obtain ⟨s_0, s_1, s_2⟩ := hkeep.out _ _ hb ⟨by assumption, by first | assumption | exact c0_0, by first | assumption | exact c2_0⟩; clear hb))
  have hF : Far 0 0 w6 w7 := Far.of_below s_0
  clear hkeep s_0 s_1 s_2 r6 hbs
  have zs7 : w6.heap.size ≤ w7.heap.size := by have := hF.size; (try simp at this); omega
  replace c0_0 : w7.cell? ⟨w.heap.size, 0, none⟩ = some (.slice A0_0 x0.Nodes.length C0_0) := by rw [hF.cell (by first | (simp; done) | (simp; omega) | omega) (by omega)]; first | exact c0_0 | go_simp
  replace c1_0 : w7.cell? ⟨w3.heap.size, 0, none⟩ = some (.slice Aw0_0 g.1.Nodes.length Cw0_0) := by rw [hF.cell (by first | (simp; done) | (simp; omega) | omega) (by omega)]; first | exact c1_0 | go_simp
  replace c2_0 : w7.cell? ⟨w4.heap.size, 0, none⟩ = some (.slice Ai0_0 x0.Nodes.length Ci0_0) := by rw [hF.cell (by first | (simp; done) | (simp; omega) | omega) (by omega)]; first | exact c2_0 | go_simp
  replace c3_0 : w7.cell? ⟨w5.heap.size, 0, none⟩ = some (.slice Ag0_0 g.1.Nodes.length Cg0_0) := by rw [hF.cell (by first | (simp; done) | (simp; omega) | omega) (by omega)]; first | exact c3_0 | go_simp
  replace z0 : w.heap.size < w7.heap.size := by omega
  replace z1 : w3.heap.size < w7.heap.size := by omega
  replace z2 : w4.heap.size < w7.heap.size := by omega
  replace z3 : w5.heap.size < w7.heap.size := by omega
  have HB_7 := Asd.mk (Far.trans3 (HB_6.out) hF (by omega))
  replace I_w0 := Asd.mk ((I_w0.out.below (Below.refl _ _)).far hF (by omega))
  replace I_i0 := Asd.mk ((I_i0.out.below (Below.refl _ _)).far hF (by omega))
  replace I_g0 := Asd.mk ((I_g0.out.below (Below.refl _ _)).far hF (by omega))
  clear hF
  go_wp2_with fail
  refine (markWeb_calls (x0) _ _ (1) _ _ (by first | rfl | omega) (I_i0.out.below (Below.refl _ _)) (by omega) (by have := ka0.out; omega)).mono ?_
  rintro e w8 ⟨he, hI, hF⟩
  rw [ka0.out] at he
  subst he
  replace hI := Asd.mk hI
  have zs8 : w7.heap.size ≤ w8.heap.size := by have := hF.size; (try simp at this); omega
  replace c0_0 : w8.cell? ⟨w.heap.size, 0, none⟩ = some (.slice A0_0 x0.Nodes.length C0_0) := by rw [hF.cell (by first | (simp; done) | (simp; omega) | omega) (by omega)]; first | exact c0_0 | go_simp
  replace c1_0 : w8.cell? ⟨w3.heap.size, 0, none⟩ = some (.slice Aw0_0 g.1.Nodes.length Cw0_0) := by rw [hF.cell (by first | (simp; done) | (simp; omega) | omega) (by omega)]; first | exact c1_0 | go_simp
  replace c2_0 : w8.cell? ⟨w4.heap.size, 0, none⟩ = some (.slice Ai0_0 x0.Nodes.length Ci0_0) := by rw [hF.cell (by first | (simp; done) | (simp; omega) | omega) (by omega)]; first | exact c2_0 | go_simp
  replace c3_0 : w8.cell? ⟨w5.heap.size, 0, none⟩ = some (.slice Ag0_0 g.1.Nodes.length Cg0_0) := by rw [hF.cell (by first | (simp; done) | (simp; omega) | omega) (by omega)]; first | exact c3_0 | go_simp
  replace z0 : w.heap.size < w8.heap.size := by omega
  replace z1 : w3.heap.size < w8.heap.size := by omega
  replace z2 : w4.heap.size < w8.heap.size := by omega
  replace z3 : w5.heap.size < w8.heap.size := by omega
  have HB_8 := Asd.mk (Far.trans3 (HB_7.out) hF (by omega))
  replace I_w0 := Asd.mk ((I_w0.out.below (Below.refl _ _)).far hF (by omega))
  replace I_g0 := Asd.mk ((I_g0.out.below (Below.refl _ _)).far hF (by omega))
  clear hF
  clear I_i0 hI
  go_wp2_with fail
  refine (eqWeb_calls (g.1) (g.1) _ (I_g0.out.reps.below (Below.refl _ _)) (I_w0.out.reps.below (Below.refl _ _))).mono ?_
  rintro e w9 ⟨rfl, hb⟩
  have hF := Far.of_below hb
  have zs9 : w8.heap.size ≤ w9.heap.size := by have := hF.size; (try simp at this); omega
  replace c0_0 : w9.cell? ⟨w.heap.size, 0, none⟩ = some (.slice A0_0 x0.Nodes.length C0_0) := by rw [hF.cell (by first | (simp; done) | (simp; omega) | omega) (by omega)]; first | exact c0_0 | go_simp
  replace c1_0 : w9.cell? ⟨w3.heap.size, 0, none⟩ = some (.slice Aw0_0 g.1.Nodes.length Cw0_0) := by rw [hF.cell (by first | (simp; done) | (simp; omega) | omega) (by omega)]; first | exact c1_0 | go_simp
  replace c2_0 : w9.cell? ⟨w4.heap.size, 0, none⟩ = some (.slice Ai0_0 x0.Nodes.length Ci0_0) := by rw [hF.cell (by first | (simp; done) | (simp; omega) | omega) (by omega)]; first | exact c2_0 | go_simp
  replace c3_0 : w9.cell? ⟨w5.heap.size, 0, none⟩ = some (.slice Ag0_0 g.1.Nodes.length Cg0_0) := by rw [hF.cell (by first | (simp; done) | (simp; omega) | omega) (by omega)]; first | exact c3_0 | go_simp
  replace z0 : w.heap.size < w9.heap.size := by omega
  replace z1 : w3.heap.size < w9.heap.size := by omega
  replace z2 : w4.heap.size < w9.heap.size := by omega
  replace z3 : w5.heap.size < w9.heap.size := by omega
  have HB_9 := Asd.mk (Far.trans3 (HB_8.out) hF (by omega))
  replace I_w0 := Asd.mk ((I_w0.out.below (Below.refl _ _)).far hF (by omega))
  replace I_g0 := Asd.mk ((I_g0.out.below (Below.refl _ _)).far hF (by omega))
  clear hF hb
  go_wp2_with fail
  refine (markWeb_calls (g.1) _ _ (1) _ _ (by first | rfl | omega) (I_g0.out.below (Below.refl _ _)) (by omega) (by have := kg0.out; omega)).mono ?_
  rintro e w10 ⟨he, hI, hF⟩
  rw [kg0.out] at he
  subst he
  replace hI := Asd.mk hI
  have zs10 : w9.heap.size ≤ w10.heap.size := by have := hF.size; (try simp at this); omega
  replace c0_0 : w10.cell? ⟨w.heap.size, 0, none⟩ = some (.slice A0_0 x0.Nodes.length C0_0) := by rw [hF.cell (by first | (simp; done) | (simp; omega) | omega) (by omega)]; first | exact c0_0 | go_simp
  replace c1_0 : w10.cell? ⟨w3.heap.size, 0, none⟩ = some (.slice Aw0_0 g.1.Nodes.length Cw0_0) := by rw [hF.cell (by first | (simp; done) | (simp; omega) | omega) (by omega)]; first | exact c1_0 | go_simp
  replace c2_0 : w10.cell? ⟨w4.heap.size, 0, none⟩ = some (.slice Ai0_0 x0.Nodes.length Ci0_0) := by rw [hF.cell (by first | (simp; done) | (simp; omega) | omega) (by omega)]; first | exact c2_0 | go_simp
  replace c3_0 : w10.cell? ⟨w5.heap.size, 0, none⟩ = some (.slice Ag0_0 g.1.Nodes.length Cg0_0) := by rw [hF.cell (by first | (simp; done) | (simp; omega) | omega) (by omega)]; first | exact c3_0 | go_simp
  replace z0 : w.heap.size < w10.heap.size := by omega
  replace z1 : w3.heap.size < w10.heap.size := by omega
  replace z2 : w4.heap.size < w10.heap.size := by omega
  replace z3 : w5.heap.size < w10.heap.size := by omega
  have HB_10 := Asd.mk (Far.trans3 (HB_9.out) hF (by omega))
  replace I_w0 := Asd.mk ((I_w0.out.below (Below.refl _ _)).far hF (by omega))
  clear hF
  clear I_g0
  have I_m0 := hI
  clear hI
  go_wp2_with fail
  refine (heldWeb_calls (g.1) _ _ (1) _ _ (by first | rfl | omega) (I_m0.out.below (Below.refl _ _)) (by omega) (by have := kg0.out; omega)).mono ?_
  rintro e w11 ⟨he, hb⟩
  have hF := Far.of_below hb
  rw [kg0.out] at he
  subst he
  have zs11 : w10.heap.size ≤ w11.heap.size := by have := hF.size; (try simp at this); omega
  replace c0_0 : w11.cell? ⟨w.heap.size, 0, none⟩ = some (.slice A0_0 x0.Nodes.length C0_0) := by rw [hF.cell (by first | (simp; done) | (simp; omega) | omega) (by omega)]; first | exact c0_0 | go_simp
  replace c1_0 : w11.cell? ⟨w3.heap.size, 0, none⟩ = some (.slice Aw0_0 g.1.Nodes.length Cw0_0) := by rw [hF.cell (by first | (simp; done) | (simp; omega) | omega) (by omega)]; first | exact c1_0 | go_simp
  replace c2_0 : w11.cell? ⟨w4.heap.size, 0, none⟩ = some (.slice Ai0_0 x0.Nodes.length Ci0_0) := by rw [hF.cell (by first | (simp; done) | (simp; omega) | omega) (by omega)]; first | exact c2_0 | go_simp
  replace c3_0 : w11.cell? ⟨w5.heap.size, 0, none⟩ = some (.slice Ag0_0 g.1.Nodes.length Cg0_0) := by rw [hF.cell (by first | (simp; done) | (simp; omega) | omega) (by omega)]; first | exact c3_0 | go_simp
  replace z0 : w.heap.size < w11.heap.size := by omega
  replace z1 : w3.heap.size < w11.heap.size := by omega
  replace z2 : w4.heap.size < w11.heap.size := by omega
  replace z3 : w5.heap.size < w11.heap.size := by omega
  have HB_11 := Asd.mk (Far.trans3 (HB_10.out) hF (by omega))
  replace I_w0 := Asd.mk ((I_w0.out.below (Below.refl _ _)).far hF (by omega))
  replace I_m0 := Asd.mk ((I_m0.out.below (Below.refl _ _)).far hF (by omega))
  clear hF hb
  go_wp2_with fail
  refine (toWeb_calls x0 _ (H0.out.below (HB_11.out)) (by omega)).mono ?_
  rintro e w12 ⟨us, rfl, hM, hb⟩
  have hF := Far.of_below hb
  have I_h0 : Asd (Iv (w11.heap.size) w12.heap.size w12 (x0.c 46 108 112) us) := Asd.mk ((Iv.of_mades hM).mono (by simp) (Nat.le_refl _))
  obtain ⟨F_, o_, _, _⟩ := hM
  obtain ⟨v_0, G_0, rfl, p_0, rfl⟩ := Web.oopen o_
  obtain ⟨Ah0_0, Ch0_0, rfl, _, _⟩ := own_slice p_0
  clear o_ p_0
  have zs12 : w11.heap.size ≤ w12.heap.size := by have := hF.size; (try simp at this); omega
  replace c0_0 : w12.cell? ⟨w.heap.size, 0, none⟩ = some (.slice A0_0 x0.Nodes.length C0_0) := by rw [hF.cell (by first | (simp; done) | (simp; omega) | omega) (by omega)]; first | exact c0_0 | go_simp
  replace c1_0 : w12.cell? ⟨w3.heap.size, 0, none⟩ = some (.slice Aw0_0 g.1.Nodes.length Cw0_0) := by rw [hF.cell (by first | (simp; done) | (simp; omega) | omega) (by omega)]; first | exact c1_0 | go_simp
  replace c2_0 : w12.cell? ⟨w4.heap.size, 0, none⟩ = some (.slice Ai0_0 x0.Nodes.length Ci0_0) := by rw [hF.cell (by first | (simp; done) | (simp; omega) | omega) (by omega)]; first | exact c2_0 | go_simp
  replace c3_0 : w12.cell? ⟨w5.heap.size, 0, none⟩ = some (.slice Ag0_0 g.1.Nodes.length Cg0_0) := by rw [hF.cell (by first | (simp; done) | (simp; omega) | omega) (by omega)]; first | exact c3_0 | go_simp
  replace z0 : w.heap.size < w12.heap.size := by omega
  replace z1 : w3.heap.size < w12.heap.size := by omega
  replace z2 : w4.heap.size < w12.heap.size := by omega
  replace z3 : w5.heap.size < w12.heap.size := by omega
  have HB_12 := Asd.mk (Far.trans3 (HB_11.out) hF (by omega))
  replace I_w0 := Asd.mk ((I_w0.out.below (Below.refl _ _)).far hF (by omega))
  replace I_m0 := Asd.mk ((I_m0.out.below (Below.refl _ _)).far hF (by omega))
  clear hF hb
  go_wp2_with fail
  refine (DropNode_calls x0 x1 _ (I_h0.out.reps.below (Below.refl _ _)) (Web.zsm hz0.out)).mono ?_
  rw [gx]
  rintro e w13 ⟨v_, rfl, hL, hb⟩
  have hF := Far.of_below hb
  obtain ⟨Ak0_0, Ck0_0, rfl, _, _⟩ := hL.slice
  have I_k0 : Asd (Iv (w12.heap.size) w13.heap.size w13 (g.1.c 46 108 112) _) := Asd.mk ((Iv.of_lie hL).mono (by simp) (Nat.le_refl _))
  clear hL
  have zs13 : w12.heap.size ≤ w13.heap.size := by have := hF.size; (try simp at this); omega
  replace c0_0 : w13.cell? ⟨w.heap.size, 0, none⟩ = some (.slice A0_0 x0.Nodes.length C0_0) := by rw [hF.cell (by first | (simp; done) | (simp; omega) | omega) (by omega)]; first | exact c0_0 | go_simp
  replace c1_0 : w13.cell? ⟨w3.heap.size, 0, none⟩ = some (.slice Aw0_0 g.1.Nodes.length Cw0_0) := by rw [hF.cell (by first | (simp; done) | (simp; omega) | omega) (by omega)]; first | exact c1_0 | go_simp
  replace c2_0 : w13.cell? ⟨w4.heap.size, 0, none⟩ = some (.slice Ai0_0 x0.Nodes.length Ci0_0) := by rw [hF.cell (by first | (simp; done) | (simp; omega) | omega) (by omega)]; first | exact c2_0 | go_simp
  replace c3_0 : w13.cell? ⟨w5.heap.size, 0, none⟩ = some (.slice Ag0_0 g.1.Nodes.length Cg0_0) := by rw [hF.cell (by first | (simp; done) | (simp; omega) | omega) (by omega)]; first | exact c3_0 | go_simp
  replace z0 : w.heap.size < w13.heap.size := by omega
  replace z1 : w3.heap.size < w13.heap.size := by omega
  replace z2 : w4.heap.size < w13.heap.size := by omega
  replace z3 : w5.heap.size < w13.heap.size := by omega
  have HB_13 := Asd.mk (Far.trans3 (HB_12.out) hF (by omega))
  replace I_w0 := Asd.mk ((I_w0.out.below (Below.refl _ _)).far hF (by omega))
  replace I_m0 := Asd.mk ((I_m0.out.below (Below.refl _ _)).far hF (by omega))
  replace I_h0 := Asd.mk ((I_h0.out.below (Below.refl _ _)).far hF (by omega))
  clear hF hb
  clear I_h0
  go_wp2_with fail
  refine (eqWeb_calls (g.1) (g.1) _ (I_k0.out.reps.below (below_al (Below.refl _ _) _)) (I_w0.out.reps.below (below_al (Below.refl _ _) _))).mono ?_
  rintro e w14 ⟨rfl, hb⟩
  have hF := Far.of_below hb
  have zs14 : w13.heap.size + 1 ≤ w14.heap.size := by have := hF.size; (try simp at this); omega
  replace c0_0 : w14.cell? ⟨w.heap.size, 0, none⟩ = some (.slice A0_0 x0.Nodes.length C0_0) := by rw [hF.cell (by first | (simp; done) | (simp; omega) | omega) (by omega)]; first | exact c0_0 | go_simp
  replace c1_0 : w14.cell? ⟨w3.heap.size, 0, none⟩ = some (.slice Aw0_0 g.1.Nodes.length Cw0_0) := by rw [hF.cell (by first | (simp; done) | (simp; omega) | omega) (by omega)]; first | exact c1_0 | go_simp
  replace c2_0 : w14.cell? ⟨w4.heap.size, 0, none⟩ = some (.slice Ai0_0 x0.Nodes.length Ci0_0) := by rw [hF.cell (by first | (simp; done) | (simp; omega) | omega) (by omega)]; first | exact c2_0 | go_simp
  replace c3_0 : w14.cell? ⟨w5.heap.size, 0, none⟩ = some (.slice Ag0_0 g.1.Nodes.length Cg0_0) := by rw [hF.cell (by first | (simp; done) | (simp; omega) | omega) (by omega)]; first | exact c3_0 | go_simp
  have c4_0 : w14.cell? ⟨w13.heap.size, 0, none⟩ = some (.slice Ak0_0 g.1.Nodes.length Ck0_0) := by rw [hF.cell (by first | (simp; done) | (simp; omega) | omega) (by omega)]; first | exact c4_0 | go_simp
  replace z0 : w.heap.size < w14.heap.size := by omega
  replace z1 : w3.heap.size < w14.heap.size := by omega
  replace z2 : w4.heap.size < w14.heap.size := by omega
  replace z3 : w5.heap.size < w14.heap.size := by omega
  have z4 : w13.heap.size < w14.heap.size := by omega
  have HB_14 := Asd.mk (Far.trans3 (below_al (HB_13.out) _) hF (by omega))
  replace I_w0 := Asd.mk ((I_w0.out.below (below_al (Below.refl _ _) _)).far hF (by omega))
  replace I_m0 := Asd.mk ((I_m0.out.below (below_al (Below.refl _ _) _)).far hF (by omega))
  replace I_k0 := Asd.mk ((I_k0.out.below (below_al (Below.refl _ _) _)).far hF (by omega))
  clear hF hb
  go_wp2_with fail
  refine (heldWeb_calls (g.1) _ _ (1) _ _ (by first | rfl | omega) (I_m0.out.below (Below.refl _ _)) (by omega) (by have := kg0.out; omega)).mono ?_
  rintro e w15 ⟨he, hb⟩
  have hF := Far.of_below hb
  rw [kg0.out] at he
  subst he
  have zs15 : w14.heap.size ≤ w15.heap.size := by have := hF.size; (try simp at this); omega
  replace c0_0 : w15.cell? ⟨w.heap.size, 0, none⟩ = some (.slice A0_0 x0.Nodes.length C0_0) := by rw [hF.cell (by first | (simp; done) | (simp; omega) | omega) (by omega)]; first | exact c0_0 | go_simp
  replace c1_0 : w15.cell? ⟨w3.heap.size, 0, none⟩ = some (.slice Aw0_0 g.1.Nodes.length Cw0_0) := by rw [hF.cell (by first | (simp; done) | (simp; omega) | omega) (by omega)]; first | exact c1_0 | go_simp
  replace c2_0 : w15.cell? ⟨w4.heap.size, 0, none⟩ = some (.slice Ai0_0 x0.Nodes.length Ci0_0) := by rw [hF.cell (by first | (simp; done) | (simp; omega) | omega) (by omega)]; first | exact c2_0 | go_simp
  replace c3_0 : w15.cell? ⟨w5.heap.size, 0, none⟩ = some (.slice Ag0_0 g.1.Nodes.length Cg0_0) := by rw [hF.cell (by first | (simp; done) | (simp; omega) | omega) (by omega)]; first | exact c3_0 | go_simp
  replace c4_0 : w15.cell? ⟨w13.heap.size, 0, none⟩ = some (.slice Ak0_0 g.1.Nodes.length Ck0_0) := by rw [hF.cell (by first | (simp; done) | (simp; omega) | omega) (by omega)]; first | exact c4_0 | go_simp
  replace z0 : w.heap.size < w15.heap.size := by omega
  replace z1 : w3.heap.size < w15.heap.size := by omega
  replace z2 : w4.heap.size < w15.heap.size := by omega
  replace z3 : w5.heap.size < w15.heap.size := by omega
  replace z4 : w13.heap.size < w15.heap.size := by omega
  have HB_15 := Asd.mk (Far.trans3 (HB_14.out) hF (by omega))
  replace I_w0 := Asd.mk ((I_w0.out.below (Below.refl _ _)).far hF (by omega))
  replace I_m0 := Asd.mk ((I_m0.out.below (Below.refl _ _)).far hF (by omega))
  replace I_k0 := Asd.mk ((I_k0.out.below (Below.refl _ _)).far hF (by omega))
  clear hF hb
  go_wp2
  go_ret
  exact ⟨rfl, HB_15.out⟩
end Go.Proofs.Ytmjfkjdfmpileaa.M
