/- The law of PutNode, walked. -/
import Derived.Test.YtmjfkjdfmpileaaToB
import Derived.Test.YtmjfkjdfmpileaaEqB
import Derived.Test.YtmjfkjdfmpileaaSzB
import Derived.Test.YtmjfkjdfmpileaaMkN
import Derived.Test.YtmjfkjdfmpileaaSpn
import Derived.Test.YtmjfkjdfmpileaaPtn
import Derived.Test.YtmjfkjdfmpileaaCtN
import Derived.Deep.RegionWith
import Derived.Deep.RegionHeld3
set_option linter.unusedVariables false
set_option linter.unusedSimpArgs false
namespace Go.Proofs.Ytmjfkjdfmpileaa.M
open Go.RowKit

set_option maxRecDepth 100000 in
set_option maxHeartbeats 4000000 in
theorem FnExactPutNode_calls {tNode0 tStep0 tCase0 tStep1 tCase1 : Nat} (x0 : Web) (x1 : Node) (w : World) {vs0 : List Value} (h0 : reps w (x0.c tNode0 tStep0 tCase0) vs0) (hz0 : x0.Zm) {vs1 : List Value} (h1 : reps w (x1.c tStep1 tCase1) vs1) (hz1 : x1.Zm) :
    Calls Try.prog 4 #[.agg vs0.toArray, .agg vs1.toArray] w fun e w' => e = .returned (.bool true) ∧ Below w.heap.size w w' := by
  have H0 := Asd.mk h0
  obtain ⟨u0_0, rfl, g0_0⟩ := Web.ropen h0
  obtain ⟨A0_0, C0_0, rfl, _, _⟩ := rep_len g0_0
  clear g0_0
  clear h0
  replace hz0 := Asd.mk hz0
  have H1 := Asd.mk h1
  obtain ⟨u1_2, rfl, g1_2⟩ := Node.ropen h1
  obtain ⟨A1_2, C1_2, rfl, _, _⟩ := rep_len g1_2
  clear g1_2
  clear h1
  replace hz1 := Asd.mk hz1
  by_cases q0 : ((x0.bk : Nat) : Int) ≤ 1048576
  rotate_left
  · have e0 : szI (x0.bk) (1048576) = -1 := szI_no q0
    go_enter Try.func4, Try.ntmps4
    go_wp2_with fail
    refine (szWeb_calls x0 _ _ (H0.out.below (below_al (below_al (Below.refl _ _) _) _)) (by omega) (by omega) hz0.out).mono ?_
    rintro e w1 ⟨rfl, hb⟩
    have hF := Far.of_below hb
    have zs1 : w.heap.size + 1 + 1 ≤ w1.heap.size := by have := hF.size; (try simp at this); omega
    have c0_0 : w1.cell? ⟨w.heap.size, 0, none⟩ = some (.slice A0_0 x0.Nodes.length C0_0) := by rw [hF.cell (by first | (simp; done) | (simp; omega) | omega) (by omega)]; first | exact c0_0 | go_simp
    have c1_0 : w1.cell? ⟨w.heap.size + 1, 0, none⟩ = some (.string x1.Name) := by rw [hF.cell (by first | (simp; done) | (simp; omega) | omega) (by omega)]; first | exact c1_0 | go_simp
    have c1_1 : w1.cell? ⟨w.heap.size + 1, 1, none⟩ = some (.int .i64 x1.Action.Cost) := by rw [hF.cell (by first | (simp; done) | (simp; omega) | omega) (by omega)]; first | exact c1_1 | go_simp
    have c1_2 : w1.cell? ⟨w.heap.size + 1, 2, none⟩ = some (.slice A1_2 x1.Action.Steps.length C1_2) := by rw [hF.cell (by first | (simp; done) | (simp; omega) | omega) (by omega)]; first | exact c1_2 | go_simp
    have z0 : w.heap.size < w1.heap.size := by omega
    have z1 : w.heap.size + 1 < w1.heap.size := by omega
    have HB_1 := Asd.mk (Far.trans3 (below_al (below_al (Below.refl _ _) _) _) hF (by omega))
    clear hF hb
    go_wp2
    go_ret
    exact ⟨rfl, HB_1.out⟩
  have e0 : szI (x0.bk) (1048576) = 1048576 - (x0.bk : Nat) := szI_yes q0
  by_cases q1 : ((x1.bk : Nat) : Int) ≤ 1048576 - (x0.bk : Nat)
  rotate_left
  · have e1 : szI (x1.bk) (1048576 - (x0.bk : Nat)) = -1 := szI_no q1
    go_enter Try.func4, Try.ntmps4
    go_wp2_with fail
    refine (szWeb_calls x0 _ _ (H0.out.below (below_al (below_al (Below.refl _ _) _) _)) (by omega) (by omega) hz0.out).mono ?_
    rintro e w1 ⟨rfl, hb⟩
    have hF := Far.of_below hb
    have zs1 : w.heap.size + 1 + 1 ≤ w1.heap.size := by have := hF.size; (try simp at this); omega
    have c0_0 : w1.cell? ⟨w.heap.size, 0, none⟩ = some (.slice A0_0 x0.Nodes.length C0_0) := by rw [hF.cell (by first | (simp; done) | (simp; omega) | omega) (by omega)]; first | exact c0_0 | go_simp
    have c1_0 : w1.cell? ⟨w.heap.size + 1, 0, none⟩ = some (.string x1.Name) := by rw [hF.cell (by first | (simp; done) | (simp; omega) | omega) (by omega)]; first | exact c1_0 | go_simp
    have c1_1 : w1.cell? ⟨w.heap.size + 1, 1, none⟩ = some (.int .i64 x1.Action.Cost) := by rw [hF.cell (by first | (simp; done) | (simp; omega) | omega) (by omega)]; first | exact c1_1 | go_simp
    have c1_2 : w1.cell? ⟨w.heap.size + 1, 2, none⟩ = some (.slice A1_2 x1.Action.Steps.length C1_2) := by rw [hF.cell (by first | (simp; done) | (simp; omega) | omega) (by omega)]; first | exact c1_2 | go_simp
    have z0 : w.heap.size < w1.heap.size := by omega
    have z1 : w.heap.size + 1 < w1.heap.size := by omega
    have HB_1 := Asd.mk (Far.trans3 (below_al (below_al (Below.refl _ _) _) _) hF (by omega))
    clear hF hb
    go_wp2_with fail
    refine (szNode_calls x1 _ _ (H1.out.below (HB_1.out)) (by omega) (by omega) hz1.out).mono ?_
    rintro e w2 ⟨rfl, hb⟩
    have hF := Far.of_below hb
    have zs2 : w1.heap.size ≤ w2.heap.size := by have := hF.size; (try simp at this); omega
    replace c0_0 : w2.cell? ⟨w.heap.size, 0, none⟩ = some (.slice A0_0 x0.Nodes.length C0_0) := by rw [hF.cell (by first | (simp; done) | (simp; omega) | omega) (by omega)]; first | exact c0_0 | go_simp
    replace c1_0 : w2.cell? ⟨w.heap.size + 1, 0, none⟩ = some (.string x1.Name) := by rw [hF.cell (by first | (simp; done) | (simp; omega) | omega) (by omega)]; first | exact c1_0 | go_simp
    replace c1_1 : w2.cell? ⟨w.heap.size + 1, 1, none⟩ = some (.int .i64 x1.Action.Cost) := by rw [hF.cell (by first | (simp; done) | (simp; omega) | omega) (by omega)]; first | exact c1_1 | go_simp
    replace c1_2 : w2.cell? ⟨w.heap.size + 1, 2, none⟩ = some (.slice A1_2 x1.Action.Steps.length C1_2) := by rw [hF.cell (by first | (simp; done) | (simp; omega) | omega) (by omega)]; first | exact c1_2 | go_simp
    replace z0 : w.heap.size < w2.heap.size := by omega
    replace z1 : w.heap.size + 1 < w2.heap.size := by omega
    have HB_2 := Asd.mk (Far.trans3 (HB_1.out) hF (by omega))
    clear hF hb
    go_wp2
    go_ret
    exact ⟨rfl, HB_2.out⟩
  have e1 : szI (x1.bk) (1048576 - (x0.bk : Nat)) = 1048576 - (x0.bk : Nat) - (x1.bk : Nat) := szI_yes q1
  obtain ⟨g, gx⟩ : ∃ g, putWeb x0 x1 = g := ⟨_, rfl⟩
  obtain ⟨KA0, ka0⟩ : ∃ K, 1 + cntl (x0.c 46 108 112) = K := ⟨_, rfl⟩
  have la0 : 1 ≤ KA0 := by omega
  obtain ⟨KA1, ka1⟩ : ∃ K, KA0 + cntl (x1.c 108 112) = K := ⟨_, rfl⟩
  have la1 : KA0 ≤ KA1 := by omega
  obtain ⟨KG0, kg0⟩ : ∃ K, 1 + cntl (g.1.c 46 108 112) = K := ⟨_, rfl⟩
  have lg0 : 1 ≤ KG0 := by omega
  have hc_ : cntl (x0.c 46 108 112) ≤ 6 * x0.bk := Web.cnt_le x0
  have hc2_ : cntl (x1.c 108 112) ≤ 6 * (1 + x1.bk) := Node.cntl_le _ _ x1
  have hg_ : cntl (g.1.c 46 108 112) ≤ 6 * x0.bk + 6 * (1 + x1.bk) := by rw [← gx]; exact putWeb_cnt x0 x1
  have hKA : KA1 ≤ 1000000000 := by omega
  have hKG : KG0 ≤ 1000000000 := by omega
  replace ka0 := Asd.mk ka0
  replace ka1 := Asd.mk ka1
  replace kg0 := Asd.mk kg0
  clear hc_
  go_enter Try.func4, Try.ntmps4
  go_wp2_with fail
  refine (szWeb_calls x0 _ _ (H0.out.below (below_al (below_al (Below.refl _ _) _) _)) (by omega) (by omega) hz0.out).mono ?_
  rintro e w1 ⟨rfl, hb⟩
  have hF := Far.of_below hb
  have zs1 : w.heap.size + 1 + 1 ≤ w1.heap.size := by have := hF.size; (try simp at this); omega
  have c0_0 : w1.cell? ⟨w.heap.size, 0, none⟩ = some (.slice A0_0 x0.Nodes.length C0_0) := by rw [hF.cell (by first | (simp; done) | (simp; omega) | omega) (by omega)]; first | exact c0_0 | go_simp
  have c1_0 : w1.cell? ⟨w.heap.size + 1, 0, none⟩ = some (.string x1.Name) := by rw [hF.cell (by first | (simp; done) | (simp; omega) | omega) (by omega)]; first | exact c1_0 | go_simp
  have c1_1 : w1.cell? ⟨w.heap.size + 1, 1, none⟩ = some (.int .i64 x1.Action.Cost) := by rw [hF.cell (by first | (simp; done) | (simp; omega) | omega) (by omega)]; first | exact c1_1 | go_simp
  have c1_2 : w1.cell? ⟨w.heap.size + 1, 2, none⟩ = some (.slice A1_2 x1.Action.Steps.length C1_2) := by rw [hF.cell (by first | (simp; done) | (simp; omega) | omega) (by omega)]; first | exact c1_2 | go_simp
  have z0 : w.heap.size < w1.heap.size := by omega
  have z1 : w.heap.size + 1 < w1.heap.size := by omega
  have HB_1 := Asd.mk (Far.trans3 (below_al (below_al (Below.refl _ _) _) _) hF (by omega))
  clear hF hb
  go_wp2_with fail
  refine (szNode_calls x1 _ _ (H1.out.below (HB_1.out)) (by omega) (by omega) hz1.out).mono ?_
  rintro e w2 ⟨rfl, hb⟩
  have hF := Far.of_below hb
  have zs2 : w1.heap.size ≤ w2.heap.size := by have := hF.size; (try simp at this); omega
  replace c0_0 : w2.cell? ⟨w.heap.size, 0, none⟩ = some (.slice A0_0 x0.Nodes.length C0_0) := by rw [hF.cell (by first | (simp; done) | (simp; omega) | omega) (by omega)]; first | exact c0_0 | go_simp
  replace c1_0 : w2.cell? ⟨w.heap.size + 1, 0, none⟩ = some (.string x1.Name) := by rw [hF.cell (by first | (simp; done) | (simp; omega) | omega) (by omega)]; first | exact c1_0 | go_simp
  replace c1_1 : w2.cell? ⟨w.heap.size + 1, 1, none⟩ = some (.int .i64 x1.Action.Cost) := by rw [hF.cell (by first | (simp; done) | (simp; omega) | omega) (by omega)]; first | exact c1_1 | go_simp
  replace c1_2 : w2.cell? ⟨w.heap.size + 1, 2, none⟩ = some (.slice A1_2 x1.Action.Steps.length C1_2) := by rw [hF.cell (by first | (simp; done) | (simp; omega) | omega) (by omega)]; first | exact c1_2 | go_simp
  replace z0 : w.heap.size < w2.heap.size := by omega
  replace z1 : w.heap.size + 1 < w2.heap.size := by omega
  have HB_2 := Asd.mk (Far.trans3 (HB_1.out) hF (by omega))
  clear hF hb
  have hkeep := Asd.mk (show ∀ W, Below w2.heap.size w2 W → (Below w2.heap.size w2 W ∧ W.cell? ⟨w.heap.size, 0, none⟩ = some (.slice A0_0 x0.Nodes.length C0_0) ∧ W.cell? ⟨w.heap.size + 1, 0, none⟩ = some (.string x1.Name) ∧ W.cell? ⟨w.heap.size + 1, 1, none⟩ = some (.int .i64 x1.Action.Cost) ∧ W.cell? ⟨w.heap.size + 1, 2, none⟩ = some (.slice A1_2 x1.Action.Steps.length C1_2)) from fun W hb => ⟨hb, cell_below hb c0_0, cell_below hb c1_0, cell_below hb c1_1, cell_below hb c1_2⟩)
  have s_0 : Below w2.heap.size w2 w2.drew := (Below.refl _ _).drew
  go_wp2
  go_cut [6, 7] (fun s6_ s7_ X => ∃ (b_w0 : Nat) (Aw0_0 : Option Addr) (Cw0_0 : Nat), s6_ = .pointer (some ⟨b_w0, 0, none⟩) ∧ (w2.heap.size ≤ b_w0 ∧ b_w0 < X.heap.size) ∧ X.cell? ⟨b_w0, 0, none⟩ = some (.slice Aw0_0 g.1.Nodes.length Cw0_0) ∧ Iv 0 X.heap.size X (g.1.c 46 108 112) [.slice Aw0_0 g.1.Nodes.length Cw0_0] ∧ s7_ = .int .i64 (g.2) ∧ Below w2.heap.size w2 X)
  case first =>
    go_region_held3 (fun W => Below w2.heap.size w2 W ∧ W.cell? ⟨w.heap.size, 0, none⟩ = some (.slice A0_0 x0.Nodes.length C0_0) ∧ W.cell? ⟨w.heap.size + 1, 0, none⟩ = some (.string x1.Name) ∧ W.cell? ⟨w.heap.size + 1, 1, none⟩ = some (.int .i64 x1.Action.Cost) ∧ W.cell? ⟨w.heap.size + 1, 2, none⟩ = some (.slice A1_2 x1.Action.Steps.length C1_2)) ((refine hkeep.out _ ?_; (repeat (first | (with_reducible exact Below.refl _ _) | (with_reducible exact s_0) | (with_reducible refine below_al ?_ _) | (with_reducible refine below_dr ?_ _) | (with_reducible refine below_d1 ?_) | ((with_reducible refine Below.setCell ?_ ?_ _); rotate_left; (next => first | (simp; done) | (simp; omega) | omega))))))
      (first | (go_at_call 9; refine (toWeb_calls x0 _ (H0.out.below (below_st (HB_2.out) (show Below w2.heap.size w2 _ from by repeat (first | (with_reducible exact Below.refl _ _) | (with_reducible exact s_0) | (with_reducible refine below_al ?_ _) | (with_reducible refine below_dr ?_ _) | (with_reducible refine below_d1 ?_) | ((with_reducible refine Below.setCell ?_ ?_ _); rotate_left; (next => first | (simp; done) | (simp; omega) | omega)))))) (by omega)).mono ?_; rintro e W0 ⟨us, rfl, ⟨F_, o_, n_, l_⟩, hb⟩; obtain ⟨v_0, G_0, rfl, p_0, rfl⟩ := Web.oopen o_; obtain ⟨D0_0, d0_0, rfl, _, _⟩ := own_slice p_0; have r_s0 := Asd.mk o_.rep; obtain ⟨s_0, s_1, s_2, s_3, s_4⟩ := hkeep.out _ (below_st (show Below w2.heap.size w2 _ from by repeat (first | (with_reducible exact Below.refl _ _) | (with_reducible exact s_0) | (with_reducible refine below_al ?_ _) | (with_reducible refine below_dr ?_ _) | (with_reducible refine below_d1 ?_) | ((with_reducible refine Below.setCell ?_ ?_ _); rotate_left; (next => first | (simp; done) | (simp; omega) | omega)))) hb); obtain ⟨hcx_W0, hfx_W0⟩ := bcell hb; (try have yw2_W0 := (show w2.heap.size < W0.heap.size by have := hb.size; (try simp at this); omega)); have x_W0 := s_0.size; clear hb o_ l_ n_ p_0) | (go_at_call 16; refine (toNode_calls x1 _ (H1.out.below (below_st (HB_2.out) (show Below w2.heap.size w2 _ from by repeat (first | (with_reducible exact Below.refl _ _) | (with_reducible exact s_0) | (with_reducible refine below_al ?_ _) | (with_reducible refine below_dr ?_ _) | (with_reducible refine below_d1 ?_) | ((with_reducible refine Below.setCell ?_ ?_ _); rotate_left; (next => first | (simp; done) | (simp; omega) | omega)))))) (by omega)).mono ?_; rintro e W1 ⟨us, rfl, ⟨F_, o_, n_, l_⟩, hb⟩; obtain ⟨v_2, G_2, rfl, p_2, rfl⟩ := Node.oopen o_; obtain ⟨D1_2, d1_2, rfl, _, _⟩ := own_slice p_2; have r_s1 := Asd.mk o_.rep; replace r_s0 := Asd.mk (r_s0.out.below (below_st (by repeat (first | (with_reducible exact Below.refl _ _) | (with_reducible exact Below.refl _ _) | (with_reducible refine below_al ?_ _) | (with_reducible refine below_dr ?_ _) | (with_reducible refine below_d1 ?_) | ((with_reducible refine Below.setCell ?_ ?_ _); rotate_left; (next => first | (simp; done) | (simp; omega) | omega)))) hb)); obtain ⟨s_0, s_1, s_2, s_3, s_4⟩ := hkeep.out _ (below_st (show Below w2.heap.size w2 _ from by repeat (first | (with_reducible exact Below.refl _ _) | (with_reducible exact s_0) | (with_reducible refine below_al ?_ _) | (with_reducible refine below_dr ?_ _) | (with_reducible refine below_d1 ?_) | ((with_reducible refine Below.setCell ?_ ?_ _); rotate_left; (next => first | (simp; done) | (simp; omega) | omega)))) hb); obtain ⟨hcx_W1, hfx_W1⟩ := bcell hb; (try have yw2_W1 := (show w2.heap.size < W1.heap.size by have := hb.size; (try simp at this); omega)); (try have yW0_W1 := (show W0.heap.size < W1.heap.size by have := hb.size; (try simp at this); omega)); have x_W1 := s_0.size; clear hb o_ l_ n_ p_2) | (go_at_call 15; refine (sPutNode_calls x0 x1 _ (r_s0.out.below (by repeat (first | (with_reducible exact Below.refl _ _) | (with_reducible exact Below.refl _ _) | (with_reducible refine below_al ?_ _) | (with_reducible refine below_dr ?_ _) | (with_reducible refine below_d1 ?_) | ((with_reducible refine Below.setCell ?_ ?_ _); rotate_left; (next => first | (simp; done) | (simp; omega) | omega))))) (r_s1.out.below (by repeat (first | (with_reducible exact Below.refl _ _) | (with_reducible exact Below.refl _ _) | (with_reducible refine below_al ?_ _) | (with_reducible refine below_dr ?_ _) | (with_reducible refine below_d1 ?_) | ((with_reducible refine Below.setCell ?_ ?_ _); rotate_left; (next => first | (simp; done) | (simp; omega) | omega))))) (Web.zsm hz0.out) (Node.zsm hz1.out)).mono ?_; rw [gx]; rintro e w3 ⟨v_, rfl, hL, hb⟩; obtain ⟨Aw0_0, Cw0_0, rfl, _, _⟩ := hL.slice; have I_w0 : Asd (Iv _ w3.heap.size w3 (g.1.c 46 108 112) _) := Asd.mk ((Iv.of_lie hL).mono (Nat.le_refl _) (Nat.le_refl _)); clear hL; obtain ⟨s_0, s_1, s_2, s_3, s_4⟩ := hkeep.out _ (below_st (show Below w2.heap.size w2 _ from by repeat (first | (with_reducible exact Below.refl _ _) | (with_reducible exact s_0) | (with_reducible refine below_al ?_ _) | (with_reducible refine below_dr ?_ _) | (with_reducible refine below_d1 ?_) | ((with_reducible refine Below.setCell ?_ ?_ _); rotate_left; (next => first | (simp; done) | (simp; omega) | omega)))) hb); obtain ⟨hcx_w3, hfx_w3⟩ := bcell hb; (try have yw2_w3 := (show w2.heap.size < w3.heap.size by have := hb.size; (try simp at this); omega)); (try have yW0_w3 := (show W0.heap.size < w3.heap.size by have := hb.size; (try simp at this); omega)); (try have yW1_w3 := (show W1.heap.size < w3.heap.size by have := hb.size; (try simp at this); omega)); have x_w3 := s_0.size; clear hb))
    all_goals
      (go_wp2_with fail; go_meet; refine ⟨_, Aw0_0, Cw0_0, rfl, (by constructor <;> (first | (simp; done) | (simp; omega) | omega)), (by go_simp), (by first | exact (I_w0.out.set (by first | (simp; done) | (simp; omega) | omega) _).mono (Nat.zero_le _) (by simp) | exact (I_w0.out.below (by repeat (first | (with_reducible exact Below.refl _ _) | (with_reducible exact Below.refl _ _) | (with_reducible refine below_al ?_ _) | (with_reducible refine below_dr ?_ _) | (with_reducible refine below_d1 ?_) | ((with_reducible refine Below.setCell ?_ ?_ _); rotate_left; (next => first | (simp; done) | (simp; omega) | omega))))).mono (Nat.zero_le _) (by simp)), rfl, ?_⟩; (repeat (first | (with_reducible exact Below.refl _ _) | (with_reducible exact s_0) | (with_reducible refine below_al ?_ _) | (with_reducible refine below_dr ?_ _) | (with_reducible refine below_d1 ?_) | ((with_reducible refine Below.setCell ?_ ?_ _); rotate_left; (next => first | (simp; done) | (simp; omega) | omega)))))
  case rest =>
    clear s_0
    obtain ⟨b_w0, Aw0_0, Cw0_0, rfl, ⟨zb0_w0, zb_w0⟩, ccw0_0, I_w0, rfl, s_0⟩ := hcut
    obtain ⟨w3, rfl⟩ : ∃ X, X = wc := ⟨_, rfl⟩
    have hF : Far 0 0 w2 w3 := Far.of_below s_0
    clear hkeep s_0
    have zs3 : w2.heap.size ≤ w3.heap.size := by have := hF.size; (try simp at this); omega
    replace c0_0 : w3.cell? ⟨w.heap.size, 0, none⟩ = some (.slice A0_0 x0.Nodes.length C0_0) := by rw [hF.cell (by first | (simp; done) | (simp; omega) | omega) (by omega)]; first | exact c0_0 | go_simp
    replace c1_0 : w3.cell? ⟨w.heap.size + 1, 0, none⟩ = some (.string x1.Name) := by rw [hF.cell (by first | (simp; done) | (simp; omega) | omega) (by omega)]; first | exact c1_0 | go_simp
    replace c1_1 : w3.cell? ⟨w.heap.size + 1, 1, none⟩ = some (.int .i64 x1.Action.Cost) := by rw [hF.cell (by first | (simp; done) | (simp; omega) | omega) (by omega)]; first | exact c1_1 | go_simp
    replace c1_2 : w3.cell? ⟨w.heap.size + 1, 2, none⟩ = some (.slice A1_2 x1.Action.Steps.length C1_2) := by rw [hF.cell (by first | (simp; done) | (simp; omega) | omega) (by omega)]; first | exact c1_2 | go_simp
    replace z0 : w.heap.size < w3.heap.size := by omega
    replace z1 : w.heap.size + 1 < w3.heap.size := by omega
    have HB_3 := Asd.mk (Far.trans3 (HB_2.out) hF (by omega))
    clear hF
    replace I_w0 := Asd.mk I_w0
    have c2_0 := ccw0_0
    have z2 : b_w0 < w3.heap.size := zb_w0
    clear ccw0_0
    go_wp2_with fail
    refine (toWeb_calls x0 _ (H0.out.below (HB_3.out)) (by omega)).mono ?_
    rintro e w4 ⟨us, rfl, hM, hb⟩
    have hF := Far.of_below hb
    have I_i0 : Asd (Iv (w3.heap.size) w4.heap.size w4 (x0.c 46 108 112) us) := Asd.mk ((Iv.of_mades hM).mono (by simp) (Nat.le_refl _))
    obtain ⟨F_, o_, _, _⟩ := hM
    obtain ⟨v_0, G_0, rfl, p_0, rfl⟩ := Web.oopen o_
    obtain ⟨Ai0_0, Ci0_0, rfl, _, _⟩ := own_slice p_0
    clear o_ p_0
    have zs4 : w3.heap.size ≤ w4.heap.size := by have := hF.size; (try simp at this); omega
    replace c0_0 : w4.cell? ⟨w.heap.size, 0, none⟩ = some (.slice A0_0 x0.Nodes.length C0_0) := by rw [hF.cell (by first | (simp; done) | (simp; omega) | omega) (by omega)]; first | exact c0_0 | go_simp
    replace c1_0 : w4.cell? ⟨w.heap.size + 1, 0, none⟩ = some (.string x1.Name) := by rw [hF.cell (by first | (simp; done) | (simp; omega) | omega) (by omega)]; first | exact c1_0 | go_simp
    replace c1_1 : w4.cell? ⟨w.heap.size + 1, 1, none⟩ = some (.int .i64 x1.Action.Cost) := by rw [hF.cell (by first | (simp; done) | (simp; omega) | omega) (by omega)]; first | exact c1_1 | go_simp
    replace c1_2 : w4.cell? ⟨w.heap.size + 1, 2, none⟩ = some (.slice A1_2 x1.Action.Steps.length C1_2) := by rw [hF.cell (by first | (simp; done) | (simp; omega) | omega) (by omega)]; first | exact c1_2 | go_simp
    replace c2_0 : w4.cell? ⟨b_w0, 0, none⟩ = some (.slice Aw0_0 g.1.Nodes.length Cw0_0) := by rw [hF.cell (by first | (simp; done) | (simp; omega) | omega) (by omega)]; first | exact c2_0 | go_simp
    replace z0 : w.heap.size < w4.heap.size := by omega
    replace z1 : w.heap.size + 1 < w4.heap.size := by omega
    replace z2 : b_w0 < w4.heap.size := by omega
    have HB_4 := Asd.mk (Far.trans3 (HB_3.out) hF (by omega))
    replace I_w0 := Asd.mk ((I_w0.out.below (Below.refl _ _)).far hF (by omega))
    clear hF hb
    go_wp2_with fail
    refine (toNode_calls x1 _ (H1.out.below (below_al (HB_4.out) _)) (by omega)).mono ?_
    rintro e w5 ⟨us, rfl, hM, hb⟩
    have hF := Far.of_below hb
    have I_i1 : Asd (Iv (w4.heap.size + 1) w5.heap.size w5 (x1.c 108 112) us) := Asd.mk ((Iv.of_mades hM).mono (by simp) (Nat.le_refl _))
    obtain ⟨F_, o_, _, _⟩ := hM
    obtain ⟨v_2, G_2, rfl, p_2, rfl⟩ := Node.oopen o_
    obtain ⟨Ai1_2, Ci1_2, rfl, _, _⟩ := own_slice p_2
    clear o_ p_2
    have zs5 : w4.heap.size + 1 ≤ w5.heap.size := by have := hF.size; (try simp at this); omega
    replace c0_0 : w5.cell? ⟨w.heap.size, 0, none⟩ = some (.slice A0_0 x0.Nodes.length C0_0) := by rw [hF.cell (by first | (simp; done) | (simp; omega) | omega) (by omega)]; first | exact c0_0 | go_simp
    replace c1_0 : w5.cell? ⟨w.heap.size + 1, 0, none⟩ = some (.string x1.Name) := by rw [hF.cell (by first | (simp; done) | (simp; omega) | omega) (by omega)]; first | exact c1_0 | go_simp
    replace c1_1 : w5.cell? ⟨w.heap.size + 1, 1, none⟩ = some (.int .i64 x1.Action.Cost) := by rw [hF.cell (by first | (simp; done) | (simp; omega) | omega) (by omega)]; first | exact c1_1 | go_simp
    replace c1_2 : w5.cell? ⟨w.heap.size + 1, 2, none⟩ = some (.slice A1_2 x1.Action.Steps.length C1_2) := by rw [hF.cell (by first | (simp; done) | (simp; omega) | omega) (by omega)]; first | exact c1_2 | go_simp
    replace c2_0 : w5.cell? ⟨b_w0, 0, none⟩ = some (.slice Aw0_0 g.1.Nodes.length Cw0_0) := by rw [hF.cell (by first | (simp; done) | (simp; omega) | omega) (by omega)]; first | exact c2_0 | go_simp
    have c3_0 : w5.cell? ⟨w4.heap.size, 0, none⟩ = some (.slice Ai0_0 x0.Nodes.length Ci0_0) := by rw [hF.cell (by first | (simp; done) | (simp; omega) | omega) (by omega)]; first | exact c3_0 | go_simp
    replace z0 : w.heap.size < w5.heap.size := by omega
    replace z1 : w.heap.size + 1 < w5.heap.size := by omega
    replace z2 : b_w0 < w5.heap.size := by omega
    have z3 : w4.heap.size < w5.heap.size := by omega
    have HB_5 := Asd.mk (Far.trans3 (below_al (HB_4.out) _) hF (by omega))
    replace I_w0 := Asd.mk ((I_w0.out.below (below_al (Below.refl _ _) _)).far hF (by omega))
    replace I_i0 := Asd.mk ((I_i0.out.below (below_al (Below.refl _ _) _)).far hF (by omega))
    clear hF hb
    go_wp2_with fail
    refine (PutNode_calls x0 x1 _ (I_i0.out.reps.below (below_al (Below.refl _ _) _)) (I_i1.out.reps.below (below_al (Below.refl _ _) _)) (Web.zsm hz0.out) (Node.zsm hz1.out)).mono ?_
    rw [gx]
    rintro e w6 ⟨v_, rfl, hL, hb⟩
    have hF := Far.of_below hb
    obtain ⟨Ag0_0, Cg0_0, rfl, _, _⟩ := hL.slice
    have I_g0 : Asd (Iv (w5.heap.size + 1) w6.heap.size w6 (g.1.c 46 108 112) _) := Asd.mk ((Iv.of_lie hL).mono (by simp) (Nat.le_refl _))
    clear hL
    have zs6 : w5.heap.size + 1 ≤ w6.heap.size := by have := hF.size; (try simp at this); omega
    replace c0_0 : w6.cell? ⟨w.heap.size, 0, none⟩ = some (.slice A0_0 x0.Nodes.length C0_0) := by rw [hF.cell (by first | (simp; done) | (simp; omega) | omega) (by omega)]; first | exact c0_0 | go_simp
    replace c1_0 : w6.cell? ⟨w.heap.size + 1, 0, none⟩ = some (.string x1.Name) := by rw [hF.cell (by first | (simp; done) | (simp; omega) | omega) (by omega)]; first | exact c1_0 | go_simp
    replace c1_1 : w6.cell? ⟨w.heap.size + 1, 1, none⟩ = some (.int .i64 x1.Action.Cost) := by rw [hF.cell (by first | (simp; done) | (simp; omega) | omega) (by omega)]; first | exact c1_1 | go_simp
    replace c1_2 : w6.cell? ⟨w.heap.size + 1, 2, none⟩ = some (.slice A1_2 x1.Action.Steps.length C1_2) := by rw [hF.cell (by first | (simp; done) | (simp; omega) | omega) (by omega)]; first | exact c1_2 | go_simp
    replace c2_0 : w6.cell? ⟨b_w0, 0, none⟩ = some (.slice Aw0_0 g.1.Nodes.length Cw0_0) := by rw [hF.cell (by first | (simp; done) | (simp; omega) | omega) (by omega)]; first | exact c2_0 | go_simp
    replace c3_0 : w6.cell? ⟨w4.heap.size, 0, none⟩ = some (.slice Ai0_0 x0.Nodes.length Ci0_0) := by rw [hF.cell (by first | (simp; done) | (simp; omega) | omega) (by omega)]; first | exact c3_0 | go_simp
    have c4_0 : w6.cell? ⟨w5.heap.size, 0, none⟩ = some (.string x1.Name) := by rw [hF.cell (by first | (simp; done) | (simp; omega) | omega) (by omega)]; first | exact c4_0 | go_simp
    have c4_1 : w6.cell? ⟨w5.heap.size, 1, none⟩ = some (.int .i64 x1.Action.Cost) := by rw [hF.cell (by first | (simp; done) | (simp; omega) | omega) (by omega)]; first | exact c4_1 | go_simp
    have c4_2 : w6.cell? ⟨w5.heap.size, 2, none⟩ = some (.slice Ai1_2 x1.Action.Steps.length Ci1_2) := by rw [hF.cell (by first | (simp; done) | (simp; omega) | omega) (by omega)]; first | exact c4_2 | go_simp
    replace z0 : w.heap.size < w6.heap.size := by omega
    replace z1 : w.heap.size + 1 < w6.heap.size := by omega
    replace z2 : b_w0 < w6.heap.size := by omega
    replace z3 : w4.heap.size < w6.heap.size := by omega
    have z4 : w5.heap.size < w6.heap.size := by omega
    have HB_6 := Asd.mk (Far.trans3 (below_al (HB_5.out) _) hF (by omega))
    replace I_w0 := Asd.mk ((I_w0.out.below (below_al (Below.refl _ _) _)).far hF (by omega))
    replace I_i0 := Asd.mk ((I_i0.out.below (below_al (Below.refl _ _) _)).far hF (by omega))
    replace I_i1 := Asd.mk ((I_i1.out.below (below_al (Below.refl _ _) _)).far hF (by omega))
    clear hF hb
    have y_0 : eqB (g.1) (g.1) = true := eqB_yes rfl
    go_wp2_with fail
    refine (eqWeb_calls (g.1) (g.1) _ (I_g0.out.reps.below (below_al (Below.refl _ _) _)) (I_w0.out.reps.below (below_al (Below.refl _ _) _))).mono ?_
    rintro e w7 ⟨rfl, hb⟩
    have hF := Far.of_below hb
    have zs7 : w6.heap.size + 1 ≤ w7.heap.size := by have := hF.size; (try simp at this); omega
    replace c0_0 : w7.cell? ⟨w.heap.size, 0, none⟩ = some (.slice A0_0 x0.Nodes.length C0_0) := by rw [hF.cell (by first | (simp; done) | (simp; omega) | omega) (by omega)]; first | exact c0_0 | go_simp
    replace c1_0 : w7.cell? ⟨w.heap.size + 1, 0, none⟩ = some (.string x1.Name) := by rw [hF.cell (by first | (simp; done) | (simp; omega) | omega) (by omega)]; first | exact c1_0 | go_simp
    replace c1_1 : w7.cell? ⟨w.heap.size + 1, 1, none⟩ = some (.int .i64 x1.Action.Cost) := by rw [hF.cell (by first | (simp; done) | (simp; omega) | omega) (by omega)]; first | exact c1_1 | go_simp
    replace c1_2 : w7.cell? ⟨w.heap.size + 1, 2, none⟩ = some (.slice A1_2 x1.Action.Steps.length C1_2) := by rw [hF.cell (by first | (simp; done) | (simp; omega) | omega) (by omega)]; first | exact c1_2 | go_simp
    replace c2_0 : w7.cell? ⟨b_w0, 0, none⟩ = some (.slice Aw0_0 g.1.Nodes.length Cw0_0) := by rw [hF.cell (by first | (simp; done) | (simp; omega) | omega) (by omega)]; first | exact c2_0 | go_simp
    replace c3_0 : w7.cell? ⟨w4.heap.size, 0, none⟩ = some (.slice Ai0_0 x0.Nodes.length Ci0_0) := by rw [hF.cell (by first | (simp; done) | (simp; omega) | omega) (by omega)]; first | exact c3_0 | go_simp
    replace c4_0 : w7.cell? ⟨w5.heap.size, 0, none⟩ = some (.string x1.Name) := by rw [hF.cell (by first | (simp; done) | (simp; omega) | omega) (by omega)]; first | exact c4_0 | go_simp
    replace c4_1 : w7.cell? ⟨w5.heap.size, 1, none⟩ = some (.int .i64 x1.Action.Cost) := by rw [hF.cell (by first | (simp; done) | (simp; omega) | omega) (by omega)]; first | exact c4_1 | go_simp
    replace c4_2 : w7.cell? ⟨w5.heap.size, 2, none⟩ = some (.slice Ai1_2 x1.Action.Steps.length Ci1_2) := by rw [hF.cell (by first | (simp; done) | (simp; omega) | omega) (by omega)]; first | exact c4_2 | go_simp
    have c5_0 : w7.cell? ⟨w6.heap.size, 0, none⟩ = some (.slice Ag0_0 g.1.Nodes.length Cg0_0) := by rw [hF.cell (by first | (simp; done) | (simp; omega) | omega) (by omega)]; first | exact c5_0 | go_simp
    replace z0 : w.heap.size < w7.heap.size := by omega
    replace z1 : w.heap.size + 1 < w7.heap.size := by omega
    replace z2 : b_w0 < w7.heap.size := by omega
    replace z3 : w4.heap.size < w7.heap.size := by omega
    replace z4 : w5.heap.size < w7.heap.size := by omega
    have z5 : w6.heap.size < w7.heap.size := by omega
    have HB_7 := Asd.mk (Far.trans3 (below_al (HB_6.out) _) hF (by omega))
    replace I_w0 := Asd.mk ((I_w0.out.below (below_al (Below.refl _ _) _)).far hF (by omega))
    replace I_i0 := Asd.mk ((I_i0.out.below (below_al (Below.refl _ _) _)).far hF (by omega))
    replace I_i1 := Asd.mk ((I_i1.out.below (below_al (Below.refl _ _) _)).far hF (by omega))
    replace I_g0 := Asd.mk ((I_g0.out.below (below_al (Below.refl _ _) _)).far hF (by omega))
    clear hF hb
    have y_1 : eqB (g.2) (g.2) = true := eqB_yes rfl
    have yx_0 : eqB x0 x0 = true := eqB_yes rfl
    have hkeep : ∀ W W', Below W.heap.size W W' → (Below w7.heap.size w7 W ∧ W.cell? ⟨w.heap.size, 0, none⟩ = some (.slice A0_0 x0.Nodes.length C0_0) ∧ W.cell? ⟨w4.heap.size, 0, none⟩ = some (.slice Ai0_0 x0.Nodes.length Ci0_0)) → (Below w7.heap.size w7 W' ∧ W'.cell? ⟨w.heap.size, 0, none⟩ = some (.slice A0_0 x0.Nodes.length C0_0) ∧ W'.cell? ⟨w4.heap.size, 0, none⟩ = some (.slice Ai0_0 x0.Nodes.length Ci0_0)) := by
      rintro W W' hb ⟨q_0, q_1, q_2⟩
      exact ⟨below_st q_0 hb, cell_below hb q_1, cell_below hb q_2⟩
    replace hkeep := Asd.mk hkeep
    have hbs : Below w7.heap.size w7 w7.drew := (Below.refl _ _).drew
    go_wp2
    go_region_held3 (fun W => Below w7.heap.size w7 W ∧ W.cell? ⟨w.heap.size, 0, none⟩ = some (.slice A0_0 x0.Nodes.length C0_0) ∧ W.cell? ⟨w4.heap.size, 0, none⟩ = some (.slice Ai0_0 x0.Nodes.length Ci0_0)) (go_keep)
      (first | (go_at_call 9; refine (toWeb_calls x0 _ (H0.out.below (below_st HB_7.out (by assumption))) (by omega)).mono ?_; rintro e W6 ⟨us, rfl, ⟨F_, o_, n_, l_⟩, hb⟩; obtain ⟨v_0, G_0, rfl, p_0, rfl⟩ := Web.oopen o_; obtain ⟨D_0, d_0, rfl, _, _⟩ := own_slice p_0; have r6 := Asd.mk o_.rep; obtain ⟨s_0, s_1, s_2⟩ := hkeep.out _ _ hb ⟨by assumption, by first | assumption | exact c0_0, by first | assumption | exact c3_0⟩; clear hb o_ l_ p_0) | (go_at_call 11; refine (eqWeb_calls x0 x0 _ (I_i0.out.reps.below (by assumption)) r6.out).mono ?_; rintro e w8 ⟨rfl, hb⟩; obtain ⟨s_0, s_1, s_2⟩ := hkeep.out _ _ hb ⟨by assumption, by first | assumption | exact c0_0, by first | assumption | exact c3_0⟩; clear hb))
    have hF : Far 0 0 w7 w8 := Far.of_below s_0
    clear hkeep s_0 s_1 s_2 r6 hbs
    have zs8 : w7.heap.size ≤ w8.heap.size := by have := hF.size; (try simp at this); omega
    replace c0_0 : w8.cell? ⟨w.heap.size, 0, none⟩ = some (.slice A0_0 x0.Nodes.length C0_0) := by rw [hF.cell (by first | (simp; done) | (simp; omega) | omega) (by omega)]; first | exact c0_0 | go_simp
    replace c1_0 : w8.cell? ⟨w.heap.size + 1, 0, none⟩ = some (.string x1.Name) := by rw [hF.cell (by first | (simp; done) | (simp; omega) | omega) (by omega)]; first | exact c1_0 | go_simp
    replace c1_1 : w8.cell? ⟨w.heap.size + 1, 1, none⟩ = some (.int .i64 x1.Action.Cost) := by rw [hF.cell (by first | (simp; done) | (simp; omega) | omega) (by omega)]; first | exact c1_1 | go_simp
    replace c1_2 : w8.cell? ⟨w.heap.size + 1, 2, none⟩ = some (.slice A1_2 x1.Action.Steps.length C1_2) := by rw [hF.cell (by first | (simp; done) | (simp; omega) | omega) (by omega)]; first | exact c1_2 | go_simp
    replace c2_0 : w8.cell? ⟨b_w0, 0, none⟩ = some (.slice Aw0_0 g.1.Nodes.length Cw0_0) := by rw [hF.cell (by first | (simp; done) | (simp; omega) | omega) (by omega)]; first | exact c2_0 | go_simp
    replace c3_0 : w8.cell? ⟨w4.heap.size, 0, none⟩ = some (.slice Ai0_0 x0.Nodes.length Ci0_0) := by rw [hF.cell (by first | (simp; done) | (simp; omega) | omega) (by omega)]; first | exact c3_0 | go_simp
    replace c4_0 : w8.cell? ⟨w5.heap.size, 0, none⟩ = some (.string x1.Name) := by rw [hF.cell (by first | (simp; done) | (simp; omega) | omega) (by omega)]; first | exact c4_0 | go_simp
    replace c4_1 : w8.cell? ⟨w5.heap.size, 1, none⟩ = some (.int .i64 x1.Action.Cost) := by rw [hF.cell (by first | (simp; done) | (simp; omega) | omega) (by omega)]; first | exact c4_1 | go_simp
    replace c4_2 : w8.cell? ⟨w5.heap.size, 2, none⟩ = some (.slice Ai1_2 x1.Action.Steps.length Ci1_2) := by rw [hF.cell (by first | (simp; done) | (simp; omega) | omega) (by omega)]; first | exact c4_2 | go_simp
    replace c5_0 : w8.cell? ⟨w6.heap.size, 0, none⟩ = some (.slice Ag0_0 g.1.Nodes.length Cg0_0) := by rw [hF.cell (by first | (simp; done) | (simp; omega) | omega) (by omega)]; first | exact c5_0 | go_simp
    replace z0 : w.heap.size < w8.heap.size := by omega
    replace z1 : w.heap.size + 1 < w8.heap.size := by omega
    replace z2 : b_w0 < w8.heap.size := by omega
    replace z3 : w4.heap.size < w8.heap.size := by omega
    replace z4 : w5.heap.size < w8.heap.size := by omega
    replace z5 : w6.heap.size < w8.heap.size := by omega
    have HB_8 := Asd.mk (Far.trans3 (HB_7.out) hF (by omega))
    replace I_w0 := Asd.mk ((I_w0.out.below (Below.refl _ _)).far hF (by omega))
    replace I_i0 := Asd.mk ((I_i0.out.below (Below.refl _ _)).far hF (by omega))
    replace I_i1 := Asd.mk ((I_i1.out.below (Below.refl _ _)).far hF (by omega))
    replace I_g0 := Asd.mk ((I_g0.out.below (Below.refl _ _)).far hF (by omega))
    clear hF
    have yx_1 : eqB x1 x1 = true := eqB_yes rfl
    have hkeep : ∀ W W', Below W.heap.size W W' → (Below w8.heap.size w8 W ∧ W.cell? ⟨w.heap.size + 1, 0, none⟩ = some (.string x1.Name) ∧ W.cell? ⟨w.heap.size + 1, 1, none⟩ = some (.int .i64 x1.Action.Cost) ∧ W.cell? ⟨w.heap.size + 1, 2, none⟩ = some (.slice A1_2 x1.Action.Steps.length C1_2) ∧ W.cell? ⟨w5.heap.size, 0, none⟩ = some (.string x1.Name) ∧ W.cell? ⟨w5.heap.size, 1, none⟩ = some (.int .i64 x1.Action.Cost) ∧ W.cell? ⟨w5.heap.size, 2, none⟩ = some (.slice Ai1_2 x1.Action.Steps.length Ci1_2)) → (Below w8.heap.size w8 W' ∧ W'.cell? ⟨w.heap.size + 1, 0, none⟩ = some (.string x1.Name) ∧ W'.cell? ⟨w.heap.size + 1, 1, none⟩ = some (.int .i64 x1.Action.Cost) ∧ W'.cell? ⟨w.heap.size + 1, 2, none⟩ = some (.slice A1_2 x1.Action.Steps.length C1_2) ∧ W'.cell? ⟨w5.heap.size, 0, none⟩ = some (.string x1.Name) ∧ W'.cell? ⟨w5.heap.size, 1, none⟩ = some (.int .i64 x1.Action.Cost) ∧ W'.cell? ⟨w5.heap.size, 2, none⟩ = some (.slice Ai1_2 x1.Action.Steps.length Ci1_2)) := by
      rintro W W' hb ⟨q_0, q_1, q_2, q_3, q_4, q_5, q_6⟩
      exact ⟨below_st q_0 hb, cell_below hb q_1, cell_below hb q_2, cell_below hb q_3, cell_below hb q_4, cell_below hb q_5, cell_below hb q_6⟩
    replace hkeep := Asd.mk hkeep
    have hbs : Below w8.heap.size w8 w8.drew := (Below.refl _ _).drew
    go_wp2
    go_region_held3 (fun W => Below w8.heap.size w8 W ∧ W.cell? ⟨w.heap.size + 1, 0, none⟩ = some (.string x1.Name) ∧ W.cell? ⟨w.heap.size + 1, 1, none⟩ = some (.int .i64 x1.Action.Cost) ∧ W.cell? ⟨w.heap.size + 1, 2, none⟩ = some (.slice A1_2 x1.Action.Steps.length C1_2) ∧ W.cell? ⟨w5.heap.size, 0, none⟩ = some (.string x1.Name) ∧ W.cell? ⟨w5.heap.size, 1, none⟩ = some (.int .i64 x1.Action.Cost) ∧ W.cell? ⟨w5.heap.size, 2, none⟩ = some (.slice Ai1_2 x1.Action.Steps.length Ci1_2)) (go_keep)
      (first | (go_at_call 16; refine (toNode_calls x1 _ (H1.out.below (below_st HB_8.out (by assumption))) (by omega)).mono ?_; rintro e W6 ⟨us, rfl, ⟨F_, o_, n_, l_⟩, hb⟩; obtain ⟨v_2, G_2, rfl, p_2, rfl⟩ := Node.oopen o_; obtain ⟨D_2, d_2, rfl, _, _⟩ := own_slice p_2; have r6 := Asd.mk o_.rep; obtain ⟨s_0, s_1, s_2, s_3, s_4, s_5, s_6⟩ := hkeep.out _ _ hb ⟨by assumption, by first | assumption | exact c1_0, by first | assumption | exact c1_1, by first | assumption | exact c1_2, by first | assumption | exact c4_0, by first | assumption | exact c4_1, by first | assumption | exact c4_2⟩; clear hb o_ l_ p_2) | (go_at_call 18; refine (eqNode_calls x1 x1 _ (I_i1.out.reps.below (by assumption)) r6.out).mono ?_; rintro e w9 ⟨rfl, hb⟩; obtain ⟨s_0, s_1, s_2, s_3, s_4, s_5, s_6⟩ := hkeep.out _ _ hb ⟨by assumption, by first | assumption | exact c1_0, by first | assumption | exact c1_1, by first | assumption | exact c1_2, by first | assumption | exact c4_0, by first | assumption | exact c4_1, by first | assumption | exact c4_2⟩; clear hb))
    have hF : Far 0 0 w8 w9 := Far.of_below s_0
    clear hkeep s_0 s_1 s_2 s_3 s_4 s_5 s_6 r6 hbs
    have zs9 : w8.heap.size ≤ w9.heap.size := by have := hF.size; (try simp at this); omega
    replace c0_0 : w9.cell? ⟨w.heap.size, 0, none⟩ = some (.slice A0_0 x0.Nodes.length C0_0) := by rw [hF.cell (by first | (simp; done) | (simp; omega) | omega) (by omega)]; first | exact c0_0 | go_simp
    replace c1_0 : w9.cell? ⟨w.heap.size + 1, 0, none⟩ = some (.string x1.Name) := by rw [hF.cell (by first | (simp; done) | (simp; omega) | omega) (by omega)]; first | exact c1_0 | go_simp
    replace c1_1 : w9.cell? ⟨w.heap.size + 1, 1, none⟩ = some (.int .i64 x1.Action.Cost) := by rw [hF.cell (by first | (simp; done) | (simp; omega) | omega) (by omega)]; first | exact c1_1 | go_simp
    replace c1_2 : w9.cell? ⟨w.heap.size + 1, 2, none⟩ = some (.slice A1_2 x1.Action.Steps.length C1_2) := by rw [hF.cell (by first | (simp; done) | (simp; omega) | omega) (by omega)]; first | exact c1_2 | go_simp
    replace c2_0 : w9.cell? ⟨b_w0, 0, none⟩ = some (.slice Aw0_0 g.1.Nodes.length Cw0_0) := by rw [hF.cell (by first | (simp; done) | (simp; omega) | omega) (by omega)]; first | exact c2_0 | go_simp
    replace c3_0 : w9.cell? ⟨w4.heap.size, 0, none⟩ = some (.slice Ai0_0 x0.Nodes.length Ci0_0) := by rw [hF.cell (by first | (simp; done) | (simp; omega) | omega) (by omega)]; first | exact c3_0 | go_simp
    replace c4_0 : w9.cell? ⟨w5.heap.size, 0, none⟩ = some (.string x1.Name) := by rw [hF.cell (by first | (simp; done) | (simp; omega) | omega) (by omega)]; first | exact c4_0 | go_simp
    replace c4_1 : w9.cell? ⟨w5.heap.size, 1, none⟩ = some (.int .i64 x1.Action.Cost) := by rw [hF.cell (by first | (simp; done) | (simp; omega) | omega) (by omega)]; first | exact c4_1 | go_simp
    replace c4_2 : w9.cell? ⟨w5.heap.size, 2, none⟩ = some (.slice Ai1_2 x1.Action.Steps.length Ci1_2) := by rw [hF.cell (by first | (simp; done) | (simp; omega) | omega) (by omega)]; first | exact c4_2 | go_simp
    replace c5_0 : w9.cell? ⟨w6.heap.size, 0, none⟩ = some (.slice Ag0_0 g.1.Nodes.length Cg0_0) := by rw [hF.cell (by first | (simp; done) | (simp; omega) | omega) (by omega)]; first | exact c5_0 | go_simp
    replace z0 : w.heap.size < w9.heap.size := by omega
    replace z1 : w.heap.size + 1 < w9.heap.size := by omega
    replace z2 : b_w0 < w9.heap.size := by omega
    replace z3 : w4.heap.size < w9.heap.size := by omega
    replace z4 : w5.heap.size < w9.heap.size := by omega
    replace z5 : w6.heap.size < w9.heap.size := by omega
    have HB_9 := Asd.mk (Far.trans3 (HB_8.out) hF (by omega))
    replace I_w0 := Asd.mk ((I_w0.out.below (Below.refl _ _)).far hF (by omega))
    replace I_i0 := Asd.mk ((I_i0.out.below (Below.refl _ _)).far hF (by omega))
    replace I_i1 := Asd.mk ((I_i1.out.below (Below.refl _ _)).far hF (by omega))
    replace I_g0 := Asd.mk ((I_g0.out.below (Below.refl _ _)).far hF (by omega))
    clear hF
    go_wp2_with fail
    refine (markWeb_calls (x0) _ _ (1) _ _ (by first | rfl | omega) (I_i0.out.below (Below.refl _ _)) (by omega) (by have := ka0.out; omega)).mono ?_
    rintro e w10 ⟨he, hI, hF⟩
    rw [ka0.out] at he
    subst he
    replace hI := Asd.mk hI
    have zs10 : w9.heap.size ≤ w10.heap.size := by have := hF.size; (try simp at this); omega
    replace c0_0 : w10.cell? ⟨w.heap.size, 0, none⟩ = some (.slice A0_0 x0.Nodes.length C0_0) := by rw [hF.cell (by first | (simp; done) | (simp; omega) | omega) (by omega)]; first | exact c0_0 | go_simp
    replace c1_0 : w10.cell? ⟨w.heap.size + 1, 0, none⟩ = some (.string x1.Name) := by rw [hF.cell (by first | (simp; done) | (simp; omega) | omega) (by omega)]; first | exact c1_0 | go_simp
    replace c1_1 : w10.cell? ⟨w.heap.size + 1, 1, none⟩ = some (.int .i64 x1.Action.Cost) := by rw [hF.cell (by first | (simp; done) | (simp; omega) | omega) (by omega)]; first | exact c1_1 | go_simp
    replace c1_2 : w10.cell? ⟨w.heap.size + 1, 2, none⟩ = some (.slice A1_2 x1.Action.Steps.length C1_2) := by rw [hF.cell (by first | (simp; done) | (simp; omega) | omega) (by omega)]; first | exact c1_2 | go_simp
    replace c2_0 : w10.cell? ⟨b_w0, 0, none⟩ = some (.slice Aw0_0 g.1.Nodes.length Cw0_0) := by rw [hF.cell (by first | (simp; done) | (simp; omega) | omega) (by omega)]; first | exact c2_0 | go_simp
    replace c3_0 : w10.cell? ⟨w4.heap.size, 0, none⟩ = some (.slice Ai0_0 x0.Nodes.length Ci0_0) := by rw [hF.cell (by first | (simp; done) | (simp; omega) | omega) (by omega)]; first | exact c3_0 | go_simp
    replace c4_0 : w10.cell? ⟨w5.heap.size, 0, none⟩ = some (.string x1.Name) := by rw [hF.cell (by first | (simp; done) | (simp; omega) | omega) (by omega)]; first | exact c4_0 | go_simp
    replace c4_1 : w10.cell? ⟨w5.heap.size, 1, none⟩ = some (.int .i64 x1.Action.Cost) := by rw [hF.cell (by first | (simp; done) | (simp; omega) | omega) (by omega)]; first | exact c4_1 | go_simp
    replace c4_2 : w10.cell? ⟨w5.heap.size, 2, none⟩ = some (.slice Ai1_2 x1.Action.Steps.length Ci1_2) := by rw [hF.cell (by first | (simp; done) | (simp; omega) | omega) (by omega)]; first | exact c4_2 | go_simp
    replace c5_0 : w10.cell? ⟨w6.heap.size, 0, none⟩ = some (.slice Ag0_0 g.1.Nodes.length Cg0_0) := by rw [hF.cell (by first | (simp; done) | (simp; omega) | omega) (by omega)]; first | exact c5_0 | go_simp
    replace z0 : w.heap.size < w10.heap.size := by omega
    replace z1 : w.heap.size + 1 < w10.heap.size := by omega
    replace z2 : b_w0 < w10.heap.size := by omega
    replace z3 : w4.heap.size < w10.heap.size := by omega
    replace z4 : w5.heap.size < w10.heap.size := by omega
    replace z5 : w6.heap.size < w10.heap.size := by omega
    have HB_10 := Asd.mk (Far.trans3 (HB_9.out) hF (by omega))
    replace I_w0 := Asd.mk ((I_w0.out.below (Below.refl _ _)).far hF (by omega))
    replace I_i1 := Asd.mk ((I_i1.out.below (Below.refl _ _)).far hF (by omega))
    replace I_g0 := Asd.mk ((I_g0.out.below (Below.refl _ _)).far hF (by omega))
    clear hF
    clear I_i0 hI
    go_wp2_with fail
    refine (markNode_calls (x1) _ _ (KA0) _ _ (by first | rfl | omega) (I_i1.out.below (Below.refl _ _)) (by omega) (by have := ka1.out; omega)).mono ?_
    rintro e w11 ⟨he, hI, hF⟩
    rw [ka1.out] at he
    subst he
    replace hI := Asd.mk hI
    have zs11 : w10.heap.size ≤ w11.heap.size := by have := hF.size; (try simp at this); omega
    replace c0_0 : w11.cell? ⟨w.heap.size, 0, none⟩ = some (.slice A0_0 x0.Nodes.length C0_0) := by rw [hF.cell (by first | (simp; done) | (simp; omega) | omega) (by omega)]; first | exact c0_0 | go_simp
    replace c1_0 : w11.cell? ⟨w.heap.size + 1, 0, none⟩ = some (.string x1.Name) := by rw [hF.cell (by first | (simp; done) | (simp; omega) | omega) (by omega)]; first | exact c1_0 | go_simp
    replace c1_1 : w11.cell? ⟨w.heap.size + 1, 1, none⟩ = some (.int .i64 x1.Action.Cost) := by rw [hF.cell (by first | (simp; done) | (simp; omega) | omega) (by omega)]; first | exact c1_1 | go_simp
    replace c1_2 : w11.cell? ⟨w.heap.size + 1, 2, none⟩ = some (.slice A1_2 x1.Action.Steps.length C1_2) := by rw [hF.cell (by first | (simp; done) | (simp; omega) | omega) (by omega)]; first | exact c1_2 | go_simp
    replace c2_0 : w11.cell? ⟨b_w0, 0, none⟩ = some (.slice Aw0_0 g.1.Nodes.length Cw0_0) := by rw [hF.cell (by first | (simp; done) | (simp; omega) | omega) (by omega)]; first | exact c2_0 | go_simp
    replace c3_0 : w11.cell? ⟨w4.heap.size, 0, none⟩ = some (.slice Ai0_0 x0.Nodes.length Ci0_0) := by rw [hF.cell (by first | (simp; done) | (simp; omega) | omega) (by omega)]; first | exact c3_0 | go_simp
    replace c4_0 : w11.cell? ⟨w5.heap.size, 0, none⟩ = some (.string x1.Name) := by rw [hF.cell (by first | (simp; done) | (simp; omega) | omega) (by omega)]; first | exact c4_0 | go_simp
    replace c4_1 : w11.cell? ⟨w5.heap.size, 1, none⟩ = some (.int .i64 x1.Action.Cost) := by rw [hF.cell (by first | (simp; done) | (simp; omega) | omega) (by omega)]; first | exact c4_1 | go_simp
    replace c4_2 : w11.cell? ⟨w5.heap.size, 2, none⟩ = some (.slice Ai1_2 x1.Action.Steps.length Ci1_2) := by rw [hF.cell (by first | (simp; done) | (simp; omega) | omega) (by omega)]; first | exact c4_2 | go_simp
    replace c5_0 : w11.cell? ⟨w6.heap.size, 0, none⟩ = some (.slice Ag0_0 g.1.Nodes.length Cg0_0) := by rw [hF.cell (by first | (simp; done) | (simp; omega) | omega) (by omega)]; first | exact c5_0 | go_simp
    replace z0 : w.heap.size < w11.heap.size := by omega
    replace z1 : w.heap.size + 1 < w11.heap.size := by omega
    replace z2 : b_w0 < w11.heap.size := by omega
    replace z3 : w4.heap.size < w11.heap.size := by omega
    replace z4 : w5.heap.size < w11.heap.size := by omega
    replace z5 : w6.heap.size < w11.heap.size := by omega
    have HB_11 := Asd.mk (Far.trans3 (HB_10.out) hF (by omega))
    replace I_w0 := Asd.mk ((I_w0.out.below (Below.refl _ _)).far hF (by omega))
    replace I_g0 := Asd.mk ((I_g0.out.below (Below.refl _ _)).far hF (by omega))
    clear hF
    clear I_i1 hI
    go_wp2_with fail
    refine (eqWeb_calls (g.1) (g.1) _ (I_g0.out.reps.below (Below.refl _ _)) (I_w0.out.reps.below (Below.refl _ _))).mono ?_
    rintro e w12 ⟨rfl, hb⟩
    have hF := Far.of_below hb
    have zs12 : w11.heap.size ≤ w12.heap.size := by have := hF.size; (try simp at this); omega
    replace c0_0 : w12.cell? ⟨w.heap.size, 0, none⟩ = some (.slice A0_0 x0.Nodes.length C0_0) := by rw [hF.cell (by first | (simp; done) | (simp; omega) | omega) (by omega)]; first | exact c0_0 | go_simp
    replace c1_0 : w12.cell? ⟨w.heap.size + 1, 0, none⟩ = some (.string x1.Name) := by rw [hF.cell (by first | (simp; done) | (simp; omega) | omega) (by omega)]; first | exact c1_0 | go_simp
    replace c1_1 : w12.cell? ⟨w.heap.size + 1, 1, none⟩ = some (.int .i64 x1.Action.Cost) := by rw [hF.cell (by first | (simp; done) | (simp; omega) | omega) (by omega)]; first | exact c1_1 | go_simp
    replace c1_2 : w12.cell? ⟨w.heap.size + 1, 2, none⟩ = some (.slice A1_2 x1.Action.Steps.length C1_2) := by rw [hF.cell (by first | (simp; done) | (simp; omega) | omega) (by omega)]; first | exact c1_2 | go_simp
    replace c2_0 : w12.cell? ⟨b_w0, 0, none⟩ = some (.slice Aw0_0 g.1.Nodes.length Cw0_0) := by rw [hF.cell (by first | (simp; done) | (simp; omega) | omega) (by omega)]; first | exact c2_0 | go_simp
    replace c3_0 : w12.cell? ⟨w4.heap.size, 0, none⟩ = some (.slice Ai0_0 x0.Nodes.length Ci0_0) := by rw [hF.cell (by first | (simp; done) | (simp; omega) | omega) (by omega)]; first | exact c3_0 | go_simp
    replace c4_0 : w12.cell? ⟨w5.heap.size, 0, none⟩ = some (.string x1.Name) := by rw [hF.cell (by first | (simp; done) | (simp; omega) | omega) (by omega)]; first | exact c4_0 | go_simp
    replace c4_1 : w12.cell? ⟨w5.heap.size, 1, none⟩ = some (.int .i64 x1.Action.Cost) := by rw [hF.cell (by first | (simp; done) | (simp; omega) | omega) (by omega)]; first | exact c4_1 | go_simp
    replace c4_2 : w12.cell? ⟨w5.heap.size, 2, none⟩ = some (.slice Ai1_2 x1.Action.Steps.length Ci1_2) := by rw [hF.cell (by first | (simp; done) | (simp; omega) | omega) (by omega)]; first | exact c4_2 | go_simp
    replace c5_0 : w12.cell? ⟨w6.heap.size, 0, none⟩ = some (.slice Ag0_0 g.1.Nodes.length Cg0_0) := by rw [hF.cell (by first | (simp; done) | (simp; omega) | omega) (by omega)]; first | exact c5_0 | go_simp
    replace z0 : w.heap.size < w12.heap.size := by omega
    replace z1 : w.heap.size + 1 < w12.heap.size := by omega
    replace z2 : b_w0 < w12.heap.size := by omega
    replace z3 : w4.heap.size < w12.heap.size := by omega
    replace z4 : w5.heap.size < w12.heap.size := by omega
    replace z5 : w6.heap.size < w12.heap.size := by omega
    have HB_12 := Asd.mk (Far.trans3 (HB_11.out) hF (by omega))
    replace I_w0 := Asd.mk ((I_w0.out.below (Below.refl _ _)).far hF (by omega))
    replace I_g0 := Asd.mk ((I_g0.out.below (Below.refl _ _)).far hF (by omega))
    clear hF hb
    go_wp2_with fail
    refine (markWeb_calls (g.1) _ _ (1) _ _ (by first | rfl | omega) (I_g0.out.below (Below.refl _ _)) (by omega) (by have := kg0.out; omega)).mono ?_
    rintro e w13 ⟨he, hI, hF⟩
    rw [kg0.out] at he
    subst he
    replace hI := Asd.mk hI
    have zs13 : w12.heap.size ≤ w13.heap.size := by have := hF.size; (try simp at this); omega
    replace c0_0 : w13.cell? ⟨w.heap.size, 0, none⟩ = some (.slice A0_0 x0.Nodes.length C0_0) := by rw [hF.cell (by first | (simp; done) | (simp; omega) | omega) (by omega)]; first | exact c0_0 | go_simp
    replace c1_0 : w13.cell? ⟨w.heap.size + 1, 0, none⟩ = some (.string x1.Name) := by rw [hF.cell (by first | (simp; done) | (simp; omega) | omega) (by omega)]; first | exact c1_0 | go_simp
    replace c1_1 : w13.cell? ⟨w.heap.size + 1, 1, none⟩ = some (.int .i64 x1.Action.Cost) := by rw [hF.cell (by first | (simp; done) | (simp; omega) | omega) (by omega)]; first | exact c1_1 | go_simp
    replace c1_2 : w13.cell? ⟨w.heap.size + 1, 2, none⟩ = some (.slice A1_2 x1.Action.Steps.length C1_2) := by rw [hF.cell (by first | (simp; done) | (simp; omega) | omega) (by omega)]; first | exact c1_2 | go_simp
    replace c2_0 : w13.cell? ⟨b_w0, 0, none⟩ = some (.slice Aw0_0 g.1.Nodes.length Cw0_0) := by rw [hF.cell (by first | (simp; done) | (simp; omega) | omega) (by omega)]; first | exact c2_0 | go_simp
    replace c3_0 : w13.cell? ⟨w4.heap.size, 0, none⟩ = some (.slice Ai0_0 x0.Nodes.length Ci0_0) := by rw [hF.cell (by first | (simp; done) | (simp; omega) | omega) (by omega)]; first | exact c3_0 | go_simp
    replace c4_0 : w13.cell? ⟨w5.heap.size, 0, none⟩ = some (.string x1.Name) := by rw [hF.cell (by first | (simp; done) | (simp; omega) | omega) (by omega)]; first | exact c4_0 | go_simp
    replace c4_1 : w13.cell? ⟨w5.heap.size, 1, none⟩ = some (.int .i64 x1.Action.Cost) := by rw [hF.cell (by first | (simp; done) | (simp; omega) | omega) (by omega)]; first | exact c4_1 | go_simp
    replace c4_2 : w13.cell? ⟨w5.heap.size, 2, none⟩ = some (.slice Ai1_2 x1.Action.Steps.length Ci1_2) := by rw [hF.cell (by first | (simp; done) | (simp; omega) | omega) (by omega)]; first | exact c4_2 | go_simp
    replace c5_0 : w13.cell? ⟨w6.heap.size, 0, none⟩ = some (.slice Ag0_0 g.1.Nodes.length Cg0_0) := by rw [hF.cell (by first | (simp; done) | (simp; omega) | omega) (by omega)]; first | exact c5_0 | go_simp
    replace z0 : w.heap.size < w13.heap.size := by omega
    replace z1 : w.heap.size + 1 < w13.heap.size := by omega
    replace z2 : b_w0 < w13.heap.size := by omega
    replace z3 : w4.heap.size < w13.heap.size := by omega
    replace z4 : w5.heap.size < w13.heap.size := by omega
    replace z5 : w6.heap.size < w13.heap.size := by omega
    have HB_13 := Asd.mk (Far.trans3 (HB_12.out) hF (by omega))
    replace I_w0 := Asd.mk ((I_w0.out.below (Below.refl _ _)).far hF (by omega))
    clear hF
    clear I_g0
    have I_m0 := hI
    clear hI
    go_wp2_with fail
    refine (heldWeb_calls (g.1) _ _ (1) _ _ (by first | rfl | omega) (I_m0.out.below (Below.refl _ _)) (by omega) (by have := kg0.out; omega)).mono ?_
    rintro e w14 ⟨he, hb⟩
    have hF := Far.of_below hb
    rw [kg0.out] at he
    subst he
    have zs14 : w13.heap.size ≤ w14.heap.size := by have := hF.size; (try simp at this); omega
    replace c0_0 : w14.cell? ⟨w.heap.size, 0, none⟩ = some (.slice A0_0 x0.Nodes.length C0_0) := by rw [hF.cell (by first | (simp; done) | (simp; omega) | omega) (by omega)]; first | exact c0_0 | go_simp
    replace c1_0 : w14.cell? ⟨w.heap.size + 1, 0, none⟩ = some (.string x1.Name) := by rw [hF.cell (by first | (simp; done) | (simp; omega) | omega) (by omega)]; first | exact c1_0 | go_simp
    replace c1_1 : w14.cell? ⟨w.heap.size + 1, 1, none⟩ = some (.int .i64 x1.Action.Cost) := by rw [hF.cell (by first | (simp; done) | (simp; omega) | omega) (by omega)]; first | exact c1_1 | go_simp
    replace c1_2 : w14.cell? ⟨w.heap.size + 1, 2, none⟩ = some (.slice A1_2 x1.Action.Steps.length C1_2) := by rw [hF.cell (by first | (simp; done) | (simp; omega) | omega) (by omega)]; first | exact c1_2 | go_simp
    replace c2_0 : w14.cell? ⟨b_w0, 0, none⟩ = some (.slice Aw0_0 g.1.Nodes.length Cw0_0) := by rw [hF.cell (by first | (simp; done) | (simp; omega) | omega) (by omega)]; first | exact c2_0 | go_simp
    replace c3_0 : w14.cell? ⟨w4.heap.size, 0, none⟩ = some (.slice Ai0_0 x0.Nodes.length Ci0_0) := by rw [hF.cell (by first | (simp; done) | (simp; omega) | omega) (by omega)]; first | exact c3_0 | go_simp
    replace c4_0 : w14.cell? ⟨w5.heap.size, 0, none⟩ = some (.string x1.Name) := by rw [hF.cell (by first | (simp; done) | (simp; omega) | omega) (by omega)]; first | exact c4_0 | go_simp
    replace c4_1 : w14.cell? ⟨w5.heap.size, 1, none⟩ = some (.int .i64 x1.Action.Cost) := by rw [hF.cell (by first | (simp; done) | (simp; omega) | omega) (by omega)]; first | exact c4_1 | go_simp
    replace c4_2 : w14.cell? ⟨w5.heap.size, 2, none⟩ = some (.slice Ai1_2 x1.Action.Steps.length Ci1_2) := by rw [hF.cell (by first | (simp; done) | (simp; omega) | omega) (by omega)]; first | exact c4_2 | go_simp
    replace c5_0 : w14.cell? ⟨w6.heap.size, 0, none⟩ = some (.slice Ag0_0 g.1.Nodes.length Cg0_0) := by rw [hF.cell (by first | (simp; done) | (simp; omega) | omega) (by omega)]; first | exact c5_0 | go_simp
    replace z0 : w.heap.size < w14.heap.size := by omega
    replace z1 : w.heap.size + 1 < w14.heap.size := by omega
    replace z2 : b_w0 < w14.heap.size := by omega
    replace z3 : w4.heap.size < w14.heap.size := by omega
    replace z4 : w5.heap.size < w14.heap.size := by omega
    replace z5 : w6.heap.size < w14.heap.size := by omega
    have HB_14 := Asd.mk (Far.trans3 (HB_13.out) hF (by omega))
    replace I_w0 := Asd.mk ((I_w0.out.below (Below.refl _ _)).far hF (by omega))
    replace I_m0 := Asd.mk ((I_m0.out.below (Below.refl _ _)).far hF (by omega))
    clear hF hb
    have hkeep := Asd.mk (show ∀ W, Below w14.heap.size w14 W → (Below w14.heap.size w14 W ∧ W.cell? ⟨w.heap.size, 0, none⟩ = some (.slice A0_0 x0.Nodes.length C0_0) ∧ W.cell? ⟨w.heap.size + 1, 0, none⟩ = some (.string x1.Name) ∧ W.cell? ⟨w.heap.size + 1, 1, none⟩ = some (.int .i64 x1.Action.Cost) ∧ W.cell? ⟨w.heap.size + 1, 2, none⟩ = some (.slice A1_2 x1.Action.Steps.length C1_2)) from fun W hb => ⟨hb, cell_below hb c0_0, cell_below hb c1_0, cell_below hb c1_1, cell_below hb c1_2⟩)
    have s_0 : Below w14.heap.size w14 w14.drew := (Below.refl _ _).drew
    go_wp2
    go_cut [15, 16] (fun s15_ s16_ X => ∃ (b_k0 : Nat) (Ak0_0 : Option Addr) (Ck0_0 : Nat), s15_ = .pointer (some ⟨b_k0, 0, none⟩) ∧ (w14.heap.size ≤ b_k0 ∧ b_k0 < X.heap.size) ∧ X.cell? ⟨b_k0, 0, none⟩ = some (.slice Ak0_0 g.1.Nodes.length Ck0_0) ∧ Iv 0 X.heap.size X (g.1.c 46 108 112) [.slice Ak0_0 g.1.Nodes.length Ck0_0] ∧ s16_ = .int .i64 (g.2) ∧ Below w14.heap.size w14 X)
    case first =>
      go_region_held3 (fun W => Below w14.heap.size w14 W ∧ W.cell? ⟨w.heap.size, 0, none⟩ = some (.slice A0_0 x0.Nodes.length C0_0) ∧ W.cell? ⟨w.heap.size + 1, 0, none⟩ = some (.string x1.Name) ∧ W.cell? ⟨w.heap.size + 1, 1, none⟩ = some (.int .i64 x1.Action.Cost) ∧ W.cell? ⟨w.heap.size + 1, 2, none⟩ = some (.slice A1_2 x1.Action.Steps.length C1_2)) ((refine hkeep.out _ ?_; (repeat (first | (with_reducible exact Below.refl _ _) | (with_reducible exact s_0) | (with_reducible refine below_al ?_ _) | (with_reducible refine below_dr ?_ _) | (with_reducible refine below_d1 ?_) | ((with_reducible refine Below.setCell ?_ ?_ _); rotate_left; (next => first | (simp; done) | (simp; omega) | omega))))))
        (first | (go_at_call 9; refine (toWeb_calls x0 _ (H0.out.below (below_st (HB_14.out) (show Below w14.heap.size w14 _ from by repeat (first | (with_reducible exact Below.refl _ _) | (with_reducible exact s_0) | (with_reducible refine below_al ?_ _) | (with_reducible refine below_dr ?_ _) | (with_reducible refine below_d1 ?_) | ((with_reducible refine Below.setCell ?_ ?_ _); rotate_left; (next => first | (simp; done) | (simp; omega) | omega)))))) (by omega)).mono ?_; rintro e W0 ⟨us, rfl, ⟨F_, o_, n_, l_⟩, hb⟩; obtain ⟨v_0, G_0, rfl, p_0, rfl⟩ := Web.oopen o_; obtain ⟨D0_0, d0_0, rfl, _, _⟩ := own_slice p_0; have r_s0 := Asd.mk o_.rep; obtain ⟨s_0, s_1, s_2, s_3, s_4⟩ := hkeep.out _ (below_st (show Below w14.heap.size w14 _ from by repeat (first | (with_reducible exact Below.refl _ _) | (with_reducible exact s_0) | (with_reducible refine below_al ?_ _) | (with_reducible refine below_dr ?_ _) | (with_reducible refine below_d1 ?_) | ((with_reducible refine Below.setCell ?_ ?_ _); rotate_left; (next => first | (simp; done) | (simp; omega) | omega)))) hb); obtain ⟨hcx_W0, hfx_W0⟩ := bcell hb; (try have yw14_W0 := (show w14.heap.size < W0.heap.size by have := hb.size; (try simp at this); omega)); have x_W0 := s_0.size; clear hb o_ l_ n_ p_0) | (go_at_call 16; refine (toNode_calls x1 _ (H1.out.below (below_st (HB_14.out) (show Below w14.heap.size w14 _ from by repeat (first | (with_reducible exact Below.refl _ _) | (with_reducible exact s_0) | (with_reducible refine below_al ?_ _) | (with_reducible refine below_dr ?_ _) | (with_reducible refine below_d1 ?_) | ((with_reducible refine Below.setCell ?_ ?_ _); rotate_left; (next => first | (simp; done) | (simp; omega) | omega)))))) (by omega)).mono ?_; rintro e W1 ⟨us, rfl, ⟨F_, o_, n_, l_⟩, hb⟩; obtain ⟨v_2, G_2, rfl, p_2, rfl⟩ := Node.oopen o_; obtain ⟨D1_2, d1_2, rfl, _, _⟩ := own_slice p_2; have r_s1 := Asd.mk o_.rep; replace r_s0 := Asd.mk (r_s0.out.below (below_st (by repeat (first | (with_reducible exact Below.refl _ _) | (with_reducible exact Below.refl _ _) | (with_reducible refine below_al ?_ _) | (with_reducible refine below_dr ?_ _) | (with_reducible refine below_d1 ?_) | ((with_reducible refine Below.setCell ?_ ?_ _); rotate_left; (next => first | (simp; done) | (simp; omega) | omega)))) hb)); obtain ⟨s_0, s_1, s_2, s_3, s_4⟩ := hkeep.out _ (below_st (show Below w14.heap.size w14 _ from by repeat (first | (with_reducible exact Below.refl _ _) | (with_reducible exact s_0) | (with_reducible refine below_al ?_ _) | (with_reducible refine below_dr ?_ _) | (with_reducible refine below_d1 ?_) | ((with_reducible refine Below.setCell ?_ ?_ _); rotate_left; (next => first | (simp; done) | (simp; omega) | omega)))) hb); obtain ⟨hcx_W1, hfx_W1⟩ := bcell hb; (try have yw14_W1 := (show w14.heap.size < W1.heap.size by have := hb.size; (try simp at this); omega)); (try have yW0_W1 := (show W0.heap.size < W1.heap.size by have := hb.size; (try simp at this); omega)); have x_W1 := s_0.size; clear hb o_ l_ n_ p_2) | (go_at_call 17; refine (PutNode_calls x0 x1 _ (r_s0.out.below (by repeat (first | (with_reducible exact Below.refl _ _) | (with_reducible exact Below.refl _ _) | (with_reducible refine below_al ?_ _) | (with_reducible refine below_dr ?_ _) | (with_reducible refine below_d1 ?_) | ((with_reducible refine Below.setCell ?_ ?_ _); rotate_left; (next => first | (simp; done) | (simp; omega) | omega))))) (r_s1.out.below (by repeat (first | (with_reducible exact Below.refl _ _) | (with_reducible exact Below.refl _ _) | (with_reducible refine below_al ?_ _) | (with_reducible refine below_dr ?_ _) | (with_reducible refine below_d1 ?_) | ((with_reducible refine Below.setCell ?_ ?_ _); rotate_left; (next => first | (simp; done) | (simp; omega) | omega))))) (Web.zsm hz0.out) (Node.zsm hz1.out)).mono ?_; rw [gx]; rintro e w15 ⟨v_, rfl, hL, hb⟩; obtain ⟨Ak0_0, Ck0_0, rfl, _, _⟩ := hL.slice; have I_k0 : Asd (Iv _ w15.heap.size w15 (g.1.c 46 108 112) _) := Asd.mk ((Iv.of_lie hL).mono (Nat.le_refl _) (Nat.le_refl _)); clear hL; obtain ⟨s_0, s_1, s_2, s_3, s_4⟩ := hkeep.out _ (below_st (show Below w14.heap.size w14 _ from by repeat (first | (with_reducible exact Below.refl _ _) | (with_reducible exact s_0) | (with_reducible refine below_al ?_ _) | (with_reducible refine below_dr ?_ _) | (with_reducible refine below_d1 ?_) | ((with_reducible refine Below.setCell ?_ ?_ _); rotate_left; (next => first | (simp; done) | (simp; omega) | omega)))) hb); obtain ⟨hcx_w15, hfx_w15⟩ := bcell hb; (try have yw14_w15 := (show w14.heap.size < w15.heap.size by have := hb.size; (try simp at this); omega)); (try have yW0_w15 := (show W0.heap.size < w15.heap.size by have := hb.size; (try simp at this); omega)); (try have yW1_w15 := (show W1.heap.size < w15.heap.size by have := hb.size; (try simp at this); omega)); have x_w15 := s_0.size; clear hb))
      all_goals
        (go_wp2_with fail; go_meet; refine ⟨_, Ak0_0, Ck0_0, rfl, (by constructor <;> (first | (simp; done) | (simp; omega) | omega)), (by go_simp), (by first | exact (I_k0.out.set (by first | (simp; done) | (simp; omega) | omega) _).mono (Nat.zero_le _) (by simp) | exact (I_k0.out.below (by repeat (first | (with_reducible exact Below.refl _ _) | (with_reducible exact Below.refl _ _) | (with_reducible refine below_al ?_ _) | (with_reducible refine below_dr ?_ _) | (with_reducible refine below_d1 ?_) | ((with_reducible refine Below.setCell ?_ ?_ _); rotate_left; (next => first | (simp; done) | (simp; omega) | omega))))).mono (Nat.zero_le _) (by simp)), rfl, ?_⟩; (repeat (first | (with_reducible exact Below.refl _ _) | (with_reducible exact s_0) | (with_reducible refine below_al ?_ _) | (with_reducible refine below_dr ?_ _) | (with_reducible refine below_d1 ?_) | ((with_reducible refine Below.setCell ?_ ?_ _); rotate_left; (next => first | (simp; done) | (simp; omega) | omega)))))
    case rest =>
      clear s_0
      obtain ⟨b_k0, Ak0_0, Ck0_0, rfl, ⟨zb0_k0, zb_k0⟩, cck0_0, I_k0, rfl, s_0⟩ := hcut
      obtain ⟨w15, rfl⟩ : ∃ X, X = wc := ⟨_, rfl⟩
      have hF : Far 0 0 w14 w15 := Far.of_below s_0
      clear hkeep s_0
      have zs15 : w14.heap.size ≤ w15.heap.size := by have := hF.size; (try simp at this); omega
      replace c0_0 : w15.cell? ⟨w.heap.size, 0, none⟩ = some (.slice A0_0 x0.Nodes.length C0_0) := by rw [hF.cell (by first | (simp; done) | (simp; omega) | omega) (by omega)]; first | exact c0_0 | go_simp
      replace c1_0 : w15.cell? ⟨w.heap.size + 1, 0, none⟩ = some (.string x1.Name) := by rw [hF.cell (by first | (simp; done) | (simp; omega) | omega) (by omega)]; first | exact c1_0 | go_simp
      replace c1_1 : w15.cell? ⟨w.heap.size + 1, 1, none⟩ = some (.int .i64 x1.Action.Cost) := by rw [hF.cell (by first | (simp; done) | (simp; omega) | omega) (by omega)]; first | exact c1_1 | go_simp
      replace c1_2 : w15.cell? ⟨w.heap.size + 1, 2, none⟩ = some (.slice A1_2 x1.Action.Steps.length C1_2) := by rw [hF.cell (by first | (simp; done) | (simp; omega) | omega) (by omega)]; first | exact c1_2 | go_simp
      replace c2_0 : w15.cell? ⟨b_w0, 0, none⟩ = some (.slice Aw0_0 g.1.Nodes.length Cw0_0) := by rw [hF.cell (by first | (simp; done) | (simp; omega) | omega) (by omega)]; first | exact c2_0 | go_simp
      replace c3_0 : w15.cell? ⟨w4.heap.size, 0, none⟩ = some (.slice Ai0_0 x0.Nodes.length Ci0_0) := by rw [hF.cell (by first | (simp; done) | (simp; omega) | omega) (by omega)]; first | exact c3_0 | go_simp
      replace c4_0 : w15.cell? ⟨w5.heap.size, 0, none⟩ = some (.string x1.Name) := by rw [hF.cell (by first | (simp; done) | (simp; omega) | omega) (by omega)]; first | exact c4_0 | go_simp
      replace c4_1 : w15.cell? ⟨w5.heap.size, 1, none⟩ = some (.int .i64 x1.Action.Cost) := by rw [hF.cell (by first | (simp; done) | (simp; omega) | omega) (by omega)]; first | exact c4_1 | go_simp
      replace c4_2 : w15.cell? ⟨w5.heap.size, 2, none⟩ = some (.slice Ai1_2 x1.Action.Steps.length Ci1_2) := by rw [hF.cell (by first | (simp; done) | (simp; omega) | omega) (by omega)]; first | exact c4_2 | go_simp
      replace c5_0 : w15.cell? ⟨w6.heap.size, 0, none⟩ = some (.slice Ag0_0 g.1.Nodes.length Cg0_0) := by rw [hF.cell (by first | (simp; done) | (simp; omega) | omega) (by omega)]; first | exact c5_0 | go_simp
      replace z0 : w.heap.size < w15.heap.size := by omega
      replace z1 : w.heap.size + 1 < w15.heap.size := by omega
      replace z2 : b_w0 < w15.heap.size := by omega
      replace z3 : w4.heap.size < w15.heap.size := by omega
      replace z4 : w5.heap.size < w15.heap.size := by omega
      replace z5 : w6.heap.size < w15.heap.size := by omega
      have HB_15 := Asd.mk (Far.trans3 (HB_14.out) hF (by omega))
      replace I_w0 := Asd.mk ((I_w0.out.below (Below.refl _ _)).far hF (by omega))
      replace I_m0 := Asd.mk ((I_m0.out.below (Below.refl _ _)).far hF (by omega))
      clear hF
      replace I_k0 := Asd.mk I_k0
      have c6_0 := cck0_0
      have z6 : b_k0 < w15.heap.size := zb_k0
      clear cck0_0
      go_wp2_with fail
      refine (eqWeb_calls (g.1) (g.1) _ (I_k0.out.reps.below (Below.refl _ _)) (I_w0.out.reps.below (Below.refl _ _))).mono ?_
      rintro e w16 ⟨rfl, hb⟩
      have hF := Far.of_below hb
      have zs16 : w15.heap.size ≤ w16.heap.size := by have := hF.size; (try simp at this); omega
      replace c0_0 : w16.cell? ⟨w.heap.size, 0, none⟩ = some (.slice A0_0 x0.Nodes.length C0_0) := by rw [hF.cell (by first | (simp; done) | (simp; omega) | omega) (by omega)]; first | exact c0_0 | go_simp
      replace c1_0 : w16.cell? ⟨w.heap.size + 1, 0, none⟩ = some (.string x1.Name) := by rw [hF.cell (by first | (simp; done) | (simp; omega) | omega) (by omega)]; first | exact c1_0 | go_simp
      replace c1_1 : w16.cell? ⟨w.heap.size + 1, 1, none⟩ = some (.int .i64 x1.Action.Cost) := by rw [hF.cell (by first | (simp; done) | (simp; omega) | omega) (by omega)]; first | exact c1_1 | go_simp
      replace c1_2 : w16.cell? ⟨w.heap.size + 1, 2, none⟩ = some (.slice A1_2 x1.Action.Steps.length C1_2) := by rw [hF.cell (by first | (simp; done) | (simp; omega) | omega) (by omega)]; first | exact c1_2 | go_simp
      replace c2_0 : w16.cell? ⟨b_w0, 0, none⟩ = some (.slice Aw0_0 g.1.Nodes.length Cw0_0) := by rw [hF.cell (by first | (simp; done) | (simp; omega) | omega) (by omega)]; first | exact c2_0 | go_simp
      replace c3_0 : w16.cell? ⟨w4.heap.size, 0, none⟩ = some (.slice Ai0_0 x0.Nodes.length Ci0_0) := by rw [hF.cell (by first | (simp; done) | (simp; omega) | omega) (by omega)]; first | exact c3_0 | go_simp
      replace c4_0 : w16.cell? ⟨w5.heap.size, 0, none⟩ = some (.string x1.Name) := by rw [hF.cell (by first | (simp; done) | (simp; omega) | omega) (by omega)]; first | exact c4_0 | go_simp
      replace c4_1 : w16.cell? ⟨w5.heap.size, 1, none⟩ = some (.int .i64 x1.Action.Cost) := by rw [hF.cell (by first | (simp; done) | (simp; omega) | omega) (by omega)]; first | exact c4_1 | go_simp
      replace c4_2 : w16.cell? ⟨w5.heap.size, 2, none⟩ = some (.slice Ai1_2 x1.Action.Steps.length Ci1_2) := by rw [hF.cell (by first | (simp; done) | (simp; omega) | omega) (by omega)]; first | exact c4_2 | go_simp
      replace c5_0 : w16.cell? ⟨w6.heap.size, 0, none⟩ = some (.slice Ag0_0 g.1.Nodes.length Cg0_0) := by rw [hF.cell (by first | (simp; done) | (simp; omega) | omega) (by omega)]; first | exact c5_0 | go_simp
      replace c6_0 : w16.cell? ⟨b_k0, 0, none⟩ = some (.slice Ak0_0 g.1.Nodes.length Ck0_0) := by rw [hF.cell (by first | (simp; done) | (simp; omega) | omega) (by omega)]; first | exact c6_0 | go_simp
      replace z0 : w.heap.size < w16.heap.size := by omega
      replace z1 : w.heap.size + 1 < w16.heap.size := by omega
      replace z2 : b_w0 < w16.heap.size := by omega
      replace z3 : w4.heap.size < w16.heap.size := by omega
      replace z4 : w5.heap.size < w16.heap.size := by omega
      replace z5 : w6.heap.size < w16.heap.size := by omega
      replace z6 : b_k0 < w16.heap.size := by omega
      have HB_16 := Asd.mk (Far.trans3 (HB_15.out) hF (by omega))
      replace I_w0 := Asd.mk ((I_w0.out.below (Below.refl _ _)).far hF (by omega))
      replace I_m0 := Asd.mk ((I_m0.out.below (Below.refl _ _)).far hF (by omega))
      replace I_k0 := Asd.mk ((I_k0.out.below (Below.refl _ _)).far hF (by omega))
      clear hF hb
      go_wp2_with fail
      refine (heldWeb_calls (g.1) _ _ (1) _ _ (by first | rfl | omega) (I_m0.out.below (Below.refl _ _)) (by omega) (by have := kg0.out; omega)).mono ?_
      rintro e w17 ⟨he, hb⟩
      have hF := Far.of_below hb
      rw [kg0.out] at he
      subst he
      have zs17 : w16.heap.size ≤ w17.heap.size := by have := hF.size; (try simp at this); omega
      replace c0_0 : w17.cell? ⟨w.heap.size, 0, none⟩ = some (.slice A0_0 x0.Nodes.length C0_0) := by rw [hF.cell (by first | (simp; done) | (simp; omega) | omega) (by omega)]; first | exact c0_0 | go_simp
      replace c1_0 : w17.cell? ⟨w.heap.size + 1, 0, none⟩ = some (.string x1.Name) := by rw [hF.cell (by first | (simp; done) | (simp; omega) | omega) (by omega)]; first | exact c1_0 | go_simp
      replace c1_1 : w17.cell? ⟨w.heap.size + 1, 1, none⟩ = some (.int .i64 x1.Action.Cost) := by rw [hF.cell (by first | (simp; done) | (simp; omega) | omega) (by omega)]; first | exact c1_1 | go_simp
      replace c1_2 : w17.cell? ⟨w.heap.size + 1, 2, none⟩ = some (.slice A1_2 x1.Action.Steps.length C1_2) := by rw [hF.cell (by first | (simp; done) | (simp; omega) | omega) (by omega)]; first | exact c1_2 | go_simp
      replace c2_0 : w17.cell? ⟨b_w0, 0, none⟩ = some (.slice Aw0_0 g.1.Nodes.length Cw0_0) := by rw [hF.cell (by first | (simp; done) | (simp; omega) | omega) (by omega)]; first | exact c2_0 | go_simp
      replace c3_0 : w17.cell? ⟨w4.heap.size, 0, none⟩ = some (.slice Ai0_0 x0.Nodes.length Ci0_0) := by rw [hF.cell (by first | (simp; done) | (simp; omega) | omega) (by omega)]; first | exact c3_0 | go_simp
      replace c4_0 : w17.cell? ⟨w5.heap.size, 0, none⟩ = some (.string x1.Name) := by rw [hF.cell (by first | (simp; done) | (simp; omega) | omega) (by omega)]; first | exact c4_0 | go_simp
      replace c4_1 : w17.cell? ⟨w5.heap.size, 1, none⟩ = some (.int .i64 x1.Action.Cost) := by rw [hF.cell (by first | (simp; done) | (simp; omega) | omega) (by omega)]; first | exact c4_1 | go_simp
      replace c4_2 : w17.cell? ⟨w5.heap.size, 2, none⟩ = some (.slice Ai1_2 x1.Action.Steps.length Ci1_2) := by rw [hF.cell (by first | (simp; done) | (simp; omega) | omega) (by omega)]; first | exact c4_2 | go_simp
      replace c5_0 : w17.cell? ⟨w6.heap.size, 0, none⟩ = some (.slice Ag0_0 g.1.Nodes.length Cg0_0) := by rw [hF.cell (by first | (simp; done) | (simp; omega) | omega) (by omega)]; first | exact c5_0 | go_simp
      replace c6_0 : w17.cell? ⟨b_k0, 0, none⟩ = some (.slice Ak0_0 g.1.Nodes.length Ck0_0) := by rw [hF.cell (by first | (simp; done) | (simp; omega) | omega) (by omega)]; first | exact c6_0 | go_simp
      replace z0 : w.heap.size < w17.heap.size := by omega
      replace z1 : w.heap.size + 1 < w17.heap.size := by omega
      replace z2 : b_w0 < w17.heap.size := by omega
      replace z3 : w4.heap.size < w17.heap.size := by omega
      replace z4 : w5.heap.size < w17.heap.size := by omega
      replace z5 : w6.heap.size < w17.heap.size := by omega
      replace z6 : b_k0 < w17.heap.size := by omega
      have HB_17 := Asd.mk (Far.trans3 (HB_16.out) hF (by omega))
      replace I_w0 := Asd.mk ((I_w0.out.below (Below.refl _ _)).far hF (by omega))
      replace I_m0 := Asd.mk ((I_m0.out.below (Below.refl _ _)).far hF (by omega))
      replace I_k0 := Asd.mk ((I_k0.out.below (Below.refl _ _)).far hF (by omega))
      clear hF hb
      go_wp2
      go_ret
      exact ⟨rfl, HB_17.out⟩
end Go.Proofs.Ytmjfkjdfmpileaa.M
