/- The law of Ready, walked. -/
import Derived.Test.YtkpkfihaihoaeaaGreatDoorVsM5
import Derived.Deep.RegionWith
import Derived.Deep.RegionHeld3
section
set_option linter.unusedVariables false
set_option linter.unusedSimpArgs false
namespace Go.Proofs.YtkpkfihaihoaeaaGreatDoor.M
open Go.RowKit
def readyC (W : Web) (s : State) : List ByteArray := if validS W s = true then readyL W s.Runs else []
theorem readyC_yes {W : Web} {s : State} (h : validS W s = true) : readyC W s = readyL W s.Runs := if_pos h
theorem readyC_no {W : Web} {s : State} (h : validS W s = false) : readyC W s = [] := if_neg (by rw [h]; decide)
theorem strs_cnt_len (t : Nat) (xs : List ByteArray) : cnt (strsT t xs) = xs.length := by
  show cnts (xs.flatMap strC) = _
  induction xs with
  | nil => rfl
  | cons x xs ih => rw [List.flatMap_cons, cnts_append, ih, List.length_cons]; simp [strC, cnts, cnt]; omega
theorem readyC_cnt (t : Nat) (W : Web) (s : State) : cnt (strsT t (readyC W s)) ≤ 60 := by
  rw [strs_cnt_len]
  cases h : validS W s with
  | true => obtain ⟨hw, _, hR⟩ := validS_reach h; rw [readyC_yes h]; exact readyL_len hw hR
  | false => rw [readyC_no h]; simp
theorem State.cnt_le (t : Nat) (x : State) : cntl (x.c t) ≤ 6 * x.bk := by
  have h1 := strs_cnt 9 x.Roots
  have h2 := runs_cnt t Run.bk x.Runs (fun r _ => by unfold Run.bk bkS bsOf; omega)
  have e : cntl (x.c t) = cnt (strsT 9 x.Roots) + (cnt (RunsT t x.Runs) + 0) := rfl
  rw [e]
  unfold State.bk Run.bs
  unfold bsOf
  omega
set_option maxRecDepth 100000 in
set_option maxHeartbeats 2000000 in
theorem Ready_calls {tN tS tC t : Nat} (W : Web) (s : State) (w : World) {vs us : List Value} (hW : reps w (W.c tN tS tC) vs) (h : reps w (State.c t s) us) (hz : W.Sm) (hgl : 3 < w.heap.size) (hgt : w.cell? ⟨3, 15, none⟩ = some (.int .u8 4)) :
    Calls Tryz.prog 37 #[.agg vs.toArray, .agg us.toArray] w (MadeV w (strsT 9 (readyC W s))) := by
  obtain ⟨v0, rfl, h0⟩ := Web.ropen hW
  obtain ⟨A, c, rfl, _, _⟩ := rep_len h0
  obtain ⟨u0, u1, rfl, g0, g1⟩ := State.ropen h
  obtain ⟨D, k, rfl, _, _⟩ := rep_len g0
  obtain ⟨B, d, rfl, _, _⟩ := rep_len g1
  replace hW := Asd.mk hW
  replace h := Asd.mk h
  clear h0 g0 g1
  have HB := Asd.mk (below_al (below_al (Below.refl w.heap.size w) (.cells #[.slice A W.Nodes.length c] 34)) (.cells #[.slice D s.Roots.length k, .slice B s.Runs.length d] 38))
  go_enter Tryz.func37, Tryz.ntmps37
  go_wp2_with fail
  refine (load_calls W s _ (hW.out.below HB.out) (h.out.below HB.out) hz (by simp; omega) (cell_below HB.out hgt)).mono ?_
  rintro e w1 ⟨hb, ⟨hv, eg, F, lo, rfl, hlo, hE⟩ | ⟨hv, rfl⟩⟩
  · have hq := Asd.mk (readyC_yes hv)
    obtain ⟨hw, _, hR⟩ := validS_reach hv
    have hb1 := Asd.mk (below_st HB.out hb)
    replace hE := Asd.mk hE
    replace hR := Asd.mk hR
    clear hb hlo hv
    go_wp2_with fail
    refine (ready_calls W s.Roots s.Runs eg F _ hE.out hw (hR.out.inv hw)).mono ?_
    rintro e w2 ⟨v, rfl, hM, hb⟩
    have hb2 := Asd.mk (below_st hb1.out hb)
    have hL := Asd.mk (hM.lie.mono hb1.out.size)
    clear hb hM
    go_wp2
    go_ret
    rw [hq.out]
    exact ⟨_, rfl, hL.out.made, hb2.out⟩
  · have hq := Asd.mk (readyC_no hv)
    have hb1 := Asd.mk (below_st HB.out hb)
    clear hb hv
    go_wp2
    go_ret
    rw [hq.out]
    exact ⟨_, rfl, Lie.made (Lie.nil _ _ _ _), hb1.out⟩
set_option maxRecDepth 100000 in
set_option maxHeartbeats 2000000 in
theorem sReady_calls {tN tS tC t : Nat} (W : Web) (s : State) (w : World) {vs us : List Value} (hW : reps w (W.c tN tS tC) vs) (h : reps w (State.c t s) us) (hz : W.Sm) :
    Calls Tryz.prog 36 #[.agg vs.toArray, .agg us.toArray] w (MadeV w (strsT 9 (readyC W s))) := by
  obtain ⟨v0, rfl, h0⟩ := Web.ropen hW
  obtain ⟨A, c, rfl, _, _⟩ := rep_len h0
  obtain ⟨u0, u1, rfl, g0, g1⟩ := State.ropen h
  obtain ⟨D, k, rfl, _, _⟩ := rep_len g0
  obtain ⟨B, d, rfl, _, _⟩ := rep_len g1
  replace hW := Asd.mk hW
  replace h := Asd.mk h
  clear h0 g0 g1
  have HB := Asd.mk (below_al (below_al (Below.refl w.heap.size w) (.cells #[.slice A W.Nodes.length c] 34)) (.cells #[.slice D s.Roots.length k, .slice B s.Runs.length d] 38))
  obtain ⟨g, hg⟩ : ∃ g, validS W s = g := ⟨_, rfl⟩
  go_enter Tryz.func36, Tryz.ntmps36
  go_wp2_with fail
  refine (sValidState_calls W s _ (hW.out.below HB.out) (h.out.below HB.out) hz).mono ?_
  rw [hg]
  rintro e w1 ⟨rfl, hb⟩
  obtain ⟨hcx, hfx⟩ := bcell hb
  have hzz : w.heap.size + 1 < w1.heap.size := by have := hb.size; simp at this; omega
  have hb1 := Asd.mk (below_st HB.out hb)
  have a0 : w1.cell? ⟨w.heap.size, 0, none⟩ = some (.slice A W.Nodes.length c) := by rw [hcx _ _ (by simp; omega)]; go_simp
  have b0 : w1.cell? ⟨w.heap.size + 1, 0, none⟩ = some (.slice D s.Roots.length k) := by rw [hcx _ _ (by simp)]; go_simp
  have b1 : w1.cell? ⟨w.heap.size + 1, 1, none⟩ = some (.slice B s.Runs.length d) := by rw [hcx _ _ (by simp)]; go_simp
  clear hb hcx hfx
  cases g with
  | true =>
    have hq := Asd.mk (readyC_yes hg)
    obtain ⟨hw, _, hR⟩ := validS_reach hg
    replace hR := Asd.mk hR
    clear hg
    go_wp2_with fail
    refine (l4Ready_calls W s _ (hW.out.below hb1.out) (h.out.below hb1.out) hw (hR.out.inv hw)).mono ?_
    rintro e w2 ⟨v, rfl, hM, hb⟩
    have hb2 := Asd.mk (below_st hb1.out hb)
    have hL := Asd.mk (hM.lie.mono hb1.out.size)
    clear hb hM
    go_wp2
    go_ret
    rw [hq.out]
    exact ⟨_, rfl, hL.out.made, hb2.out⟩
  | false =>
    have hq := Asd.mk (readyC_no hg)
    clear hg
    go_wp2
    go_ret
    rw [hq.out]
    exact ⟨_, rfl, Lie.made ((Lie.empty w1 _ _).mono hb1.out.size), by repeat (first | (with_reducible exact Below.refl _ _) | (with_reducible exact hb1.out) | (with_reducible refine below_al ?_ _) | (with_reducible refine below_dr ?_ _) | (with_reducible refine below_d1 ?_) | ((with_reducible refine Below.setCell ?_ ?_ _); rotate_left; (next => first | (simp; done) | (simp; omega) | omega)))⟩
end Go.Proofs.YtkpkfihaihoaeaaGreatDoor.M
end
section
set_option linter.unusedVariables false
set_option linter.unusedSimpArgs false
namespace Go.Proofs.YtkpkfihaihoaeaaGreatDoor.M
open Go.RowKit

set_option maxRecDepth 100000 in
set_option maxHeartbeats 4000000 in
theorem FnExactReady_calls {tNode0 tStep0 tCase0 tRun1 : Nat} (x0 : Web) (x1 : State) (w : World) {vs0 : List Value} (h0 : reps w (x0.c tNode0 tStep0 tCase0) vs0) (hz0 : x0.Zm) {vs1 : List Value} (h1 : reps w (x1.c tRun1) vs1) (hz1 : x1.Zm) (hg : 3 < w.heap.size) (ht : w.cell? ⟨3, 15, none⟩ = some (.int .u8 4)) :
    Calls Tryz.prog 5 #[.agg vs0.toArray, .agg vs1.toArray] w fun e w' => e = .returned (.bool true) ∧ Below w.heap.size w w' := by
  have H0 := Asd.mk h0
  obtain ⟨u0_0, rfl, g0_0⟩ := Web.ropen h0
  obtain ⟨A0_0, C0_0, rfl, _, _⟩ := rep_len g0_0
  clear g0_0
  clear h0
  replace hz0 := Asd.mk hz0
  have H1 := Asd.mk h1
  obtain ⟨u1_0, u1_1, rfl, g1_0, g1_1⟩ := State.ropen h1
  obtain ⟨A1_0, C1_0, rfl, _, _⟩ := rep_len g1_0
  clear g1_0
  obtain ⟨A1_1, C1_1, rfl, _, _⟩ := rep_len g1_1
  clear g1_1
  clear h1
  replace hz1 := Asd.mk hz1
  by_cases q0 : ((x0.bk : Nat) : Int) ≤ 1048576
  rotate_left
  · have e0 : szI (x0.bk) (1048576) = -1 := szI_no q0
    go_enter Tryz.func5, Tryz.ntmps5
    go_wp2_with fail
    refine (szWeb_calls x0 _ _ (H0.out.below (below_al (below_al (Below.refl _ _) _) _)) (by omega) (by omega) hz0.out).mono ?_
    rintro e w1 ⟨rfl, hb⟩
    have hF := Far.of_below hb
    have zs1 : w.heap.size + 1 + 1 ≤ w1.heap.size := by have := hF.size; (try simp at this); omega
    have c0_0 : w1.cell? ⟨w.heap.size, 0, none⟩ = some (.slice A0_0 x0.Nodes.length C0_0) := by rw [hF.cell (by first | (simp; done) | (simp; omega) | omega) (by omega)]; first | exact c0_0 | go_simp
    have c1_0 : w1.cell? ⟨w.heap.size + 1, 0, none⟩ = some (.slice A1_0 x1.Roots.length C1_0) := by rw [hF.cell (by first | (simp; done) | (simp; omega) | omega) (by omega)]; first | exact c1_0 | go_simp
    have c1_1 : w1.cell? ⟨w.heap.size + 1, 1, none⟩ = some (.slice A1_1 x1.Runs.length C1_1) := by rw [hF.cell (by first | (simp; done) | (simp; omega) | omega) (by omega)]; first | exact c1_1 | go_simp
    have z0 : w.heap.size < w1.heap.size := by omega
    have z1 : w.heap.size + 1 < w1.heap.size := by omega
    have HB_1 := Asd.mk (Far.trans3 (below_al (below_al (Below.refl _ _) _) _) hF (by omega))
    clear hF hb
    go_wp2
    go_ret
    exact ⟨rfl, HB_1.out⟩
  have e0 : szI (x0.bk) (1048576) = 1048576 - (x0.bk : Nat) := szI_yes q0
  by_cases q1 : ((x1.bk : Nat) : Int) ≤ 1048576 - (x0.bk : Nat)
  rotate_left
  · have e1 : szI (x1.bk) (1048576 - (x0.bk : Nat)) = -1 := szI_no q1
    go_enter Tryz.func5, Tryz.ntmps5
    go_wp2_with fail
    refine (szWeb_calls x0 _ _ (H0.out.below (below_al (below_al (Below.refl _ _) _) _)) (by omega) (by omega) hz0.out).mono ?_
    rintro e w1 ⟨rfl, hb⟩
    have hF := Far.of_below hb
    have zs1 : w.heap.size + 1 + 1 ≤ w1.heap.size := by have := hF.size; (try simp at this); omega
    have c0_0 : w1.cell? ⟨w.heap.size, 0, none⟩ = some (.slice A0_0 x0.Nodes.length C0_0) := by rw [hF.cell (by first | (simp; done) | (simp; omega) | omega) (by omega)]; first | exact c0_0 | go_simp
    have c1_0 : w1.cell? ⟨w.heap.size + 1, 0, none⟩ = some (.slice A1_0 x1.Roots.length C1_0) := by rw [hF.cell (by first | (simp; done) | (simp; omega) | omega) (by omega)]; first | exact c1_0 | go_simp
    have c1_1 : w1.cell? ⟨w.heap.size + 1, 1, none⟩ = some (.slice A1_1 x1.Runs.length C1_1) := by rw [hF.cell (by first | (simp; done) | (simp; omega) | omega) (by omega)]; first | exact c1_1 | go_simp
    have z0 : w.heap.size < w1.heap.size := by omega
    have z1 : w.heap.size + 1 < w1.heap.size := by omega
    have HB_1 := Asd.mk (Far.trans3 (below_al (below_al (Below.refl _ _) _) _) hF (by omega))
    clear hF hb
    go_wp2_with fail
    refine (szState_calls x1 _ _ (H1.out.below (HB_1.out)) (by omega) (by omega) hz1.out).mono ?_
    rintro e w2 ⟨rfl, hb⟩
    have hF := Far.of_below hb
    have zs2 : w1.heap.size ≤ w2.heap.size := by have := hF.size; (try simp at this); omega
    replace c0_0 : w2.cell? ⟨w.heap.size, 0, none⟩ = some (.slice A0_0 x0.Nodes.length C0_0) := by rw [hF.cell (by first | (simp; done) | (simp; omega) | omega) (by omega)]; first | exact c0_0 | go_simp
    replace c1_0 : w2.cell? ⟨w.heap.size + 1, 0, none⟩ = some (.slice A1_0 x1.Roots.length C1_0) := by rw [hF.cell (by first | (simp; done) | (simp; omega) | omega) (by omega)]; first | exact c1_0 | go_simp
    replace c1_1 : w2.cell? ⟨w.heap.size + 1, 1, none⟩ = some (.slice A1_1 x1.Runs.length C1_1) := by rw [hF.cell (by first | (simp; done) | (simp; omega) | omega) (by omega)]; first | exact c1_1 | go_simp
    replace z0 : w.heap.size < w2.heap.size := by omega
    replace z1 : w.heap.size + 1 < w2.heap.size := by omega
    have HB_2 := Asd.mk (Far.trans3 (HB_1.out) hF (by omega))
    clear hF hb
    go_wp2
    go_ret
    exact ⟨rfl, HB_2.out⟩
  have e1 : szI (x1.bk) (1048576 - (x0.bk : Nat)) = 1048576 - (x0.bk : Nat) - (x1.bk : Nat) := szI_yes q1
  obtain ⟨g, gx⟩ : ∃ g, readyC x0 x1 = g := ⟨_, rfl⟩
  obtain ⟨KA0, ka0⟩ : ∃ K, 1 + cntl (x0.c 113 121 213) = K := ⟨_, rfl⟩
  have la0 : 1 ≤ KA0 := by omega
  obtain ⟨KA1, ka1⟩ : ∃ K, KA0 + cntl (x1.c 84) = K := ⟨_, rfl⟩
  have la1 : KA0 ≤ KA1 := by omega
  obtain ⟨KG0, kg0⟩ : ∃ K, 1 + cnt (strsT 9 g) = K := ⟨_, rfl⟩
  have lg0 : 1 ≤ KG0 := by omega
  have hc_ : cntl (x0.c 113 121 213) ≤ 6 * x0.bk := Web.cnt_le x0
  have hc2_ : cntl (x1.c 84) ≤ 6 * x1.bk := State.cnt_le _ x1
  have hg_ : cnt (strsT 9 g) ≤ 60 := by rw [← gx]; exact readyC_cnt _ x0 x1
  have hKA : KA1 ≤ 1000000000 := by omega
  have hKG : KG0 ≤ 1000000000 := by omega
  replace ka0 := Asd.mk ka0
  replace ka1 := Asd.mk ka1
  replace kg0 := Asd.mk kg0
  clear hc_
  go_enter Tryz.func5, Tryz.ntmps5
  go_wp2_with fail
  refine (szWeb_calls x0 _ _ (H0.out.below (below_al (below_al (Below.refl _ _) _) _)) (by omega) (by omega) hz0.out).mono ?_
  rintro e w1 ⟨rfl, hb⟩
  have hF := Far.of_below hb
  have zs1 : w.heap.size + 1 + 1 ≤ w1.heap.size := by have := hF.size; (try simp at this); omega
  have c0_0 : w1.cell? ⟨w.heap.size, 0, none⟩ = some (.slice A0_0 x0.Nodes.length C0_0) := by rw [hF.cell (by first | (simp; done) | (simp; omega) | omega) (by omega)]; first | exact c0_0 | go_simp
  have c1_0 : w1.cell? ⟨w.heap.size + 1, 0, none⟩ = some (.slice A1_0 x1.Roots.length C1_0) := by rw [hF.cell (by first | (simp; done) | (simp; omega) | omega) (by omega)]; first | exact c1_0 | go_simp
  have c1_1 : w1.cell? ⟨w.heap.size + 1, 1, none⟩ = some (.slice A1_1 x1.Runs.length C1_1) := by rw [hF.cell (by first | (simp; done) | (simp; omega) | omega) (by omega)]; first | exact c1_1 | go_simp
  have z0 : w.heap.size < w1.heap.size := by omega
  have z1 : w.heap.size + 1 < w1.heap.size := by omega
  have HB_1 := Asd.mk (Far.trans3 (below_al (below_al (Below.refl _ _) _) _) hF (by omega))
  clear hF hb
  go_wp2_with fail
  refine (szState_calls x1 _ _ (H1.out.below (HB_1.out)) (by omega) (by omega) hz1.out).mono ?_
  rintro e w2 ⟨rfl, hb⟩
  have hF := Far.of_below hb
  have zs2 : w1.heap.size ≤ w2.heap.size := by have := hF.size; (try simp at this); omega
  replace c0_0 : w2.cell? ⟨w.heap.size, 0, none⟩ = some (.slice A0_0 x0.Nodes.length C0_0) := by rw [hF.cell (by first | (simp; done) | (simp; omega) | omega) (by omega)]; first | exact c0_0 | go_simp
  replace c1_0 : w2.cell? ⟨w.heap.size + 1, 0, none⟩ = some (.slice A1_0 x1.Roots.length C1_0) := by rw [hF.cell (by first | (simp; done) | (simp; omega) | omega) (by omega)]; first | exact c1_0 | go_simp
  replace c1_1 : w2.cell? ⟨w.heap.size + 1, 1, none⟩ = some (.slice A1_1 x1.Runs.length C1_1) := by rw [hF.cell (by first | (simp; done) | (simp; omega) | omega) (by omega)]; first | exact c1_1 | go_simp
  replace z0 : w.heap.size < w2.heap.size := by omega
  replace z1 : w.heap.size + 1 < w2.heap.size := by omega
  have HB_2 := Asd.mk (Far.trans3 (HB_1.out) hF (by omega))
  clear hF hb
  have hkeep := Asd.mk (show ∀ W, Below w2.heap.size w2 W → (Below w2.heap.size w2 W ∧ W.cell? ⟨w.heap.size, 0, none⟩ = some (.slice A0_0 x0.Nodes.length C0_0) ∧ W.cell? ⟨w.heap.size + 1, 0, none⟩ = some (.slice A1_0 x1.Roots.length C1_0) ∧ W.cell? ⟨w.heap.size + 1, 1, none⟩ = some (.slice A1_1 x1.Runs.length C1_1)) from fun W hb => ⟨hb, cell_below hb c0_0, cell_below hb c1_0, cell_below hb c1_1⟩)
  have s_0 : Below w2.heap.size w2 w2.drew := (Below.refl _ _).drew
  go_wp2
  go_region_held3 (fun W => Below w2.heap.size w2 W ∧ W.cell? ⟨w.heap.size, 0, none⟩ = some (.slice A0_0 x0.Nodes.length C0_0) ∧ W.cell? ⟨w.heap.size + 1, 0, none⟩ = some (.slice A1_0 x1.Roots.length C1_0) ∧ W.cell? ⟨w.heap.size + 1, 1, none⟩ = some (.slice A1_1 x1.Runs.length C1_1)) ((refine hkeep.out _ ?_; (repeat (first | (with_reducible exact Below.refl _ _) | (with_reducible exact s_0) | (with_reducible refine below_al ?_ _) | (with_reducible refine below_dr ?_ _) | (with_reducible refine below_d1 ?_) | ((with_reducible refine Below.setCell ?_ ?_ _); rotate_left; (next => first | (simp; done) | (simp; omega) | omega))))))
    (first | (go_at_call 18; refine (toWeb_calls x0 _ (H0.out.below (below_st (HB_2.out) (show Below w2.heap.size w2 _ from by repeat (first | (with_reducible exact Below.refl _ _) | (with_reducible exact s_0) | (with_reducible refine below_al ?_ _) | (with_reducible refine below_dr ?_ _) | (with_reducible refine below_d1 ?_) | ((with_reducible refine Below.setCell ?_ ?_ _); rotate_left; (next => first | (simp; done) | (simp; omega) | omega)))))) (by omega)).mono ?_; rintro e W0 ⟨us, rfl, ⟨F_, o_, n_, l_⟩, hb⟩; obtain ⟨v_0, G_0, rfl, p_0, rfl⟩ := Web.oopen o_; obtain ⟨D0_0, d0_0, rfl, _, _⟩ := own_slice p_0; have r_s0 := Asd.mk o_.rep; obtain ⟨s_0, s_1, s_2, s_3⟩ := hkeep.out _ (below_st (show Below w2.heap.size w2 _ from by repeat (first | (with_reducible exact Below.refl _ _) | (with_reducible exact s_0) | (with_reducible refine below_al ?_ _) | (with_reducible refine below_dr ?_ _) | (with_reducible refine below_d1 ?_) | ((with_reducible refine Below.setCell ?_ ?_ _); rotate_left; (next => first | (simp; done) | (simp; omega) | omega)))) hb); clear hb o_ l_ n_ p_0) | (go_at_call 19; refine (toState_calls x1 _ (H1.out.below (below_st (HB_2.out) (show Below w2.heap.size w2 _ from by repeat (first | (with_reducible exact Below.refl _ _) | (with_reducible exact s_0) | (with_reducible refine below_al ?_ _) | (with_reducible refine below_dr ?_ _) | (with_reducible refine below_d1 ?_) | ((with_reducible refine Below.setCell ?_ ?_ _); rotate_left; (next => first | (simp; done) | (simp; omega) | omega)))))) (by omega)).mono ?_; rintro e W1 ⟨us, rfl, ⟨F_, o_, n_, l_⟩, hb⟩; obtain ⟨v_0, G_0, v_1, G_1, rfl, p_0, p_1, rfl⟩ := State.oopen o_; obtain ⟨D1_0, d1_0, rfl, _, _⟩ := own_slice p_0; obtain ⟨D1_1, d1_1, rfl, _, _⟩ := own_slice p_1; have r_s1 := Asd.mk o_.rep; replace r_s0 := Asd.mk (r_s0.out.below (below_st (by repeat (first | (with_reducible exact Below.refl _ _) | (with_reducible exact Below.refl _ _) | (with_reducible refine below_al ?_ _) | (with_reducible refine below_dr ?_ _) | (with_reducible refine below_d1 ?_) | ((with_reducible refine Below.setCell ?_ ?_ _); rotate_left; (next => first | (simp; done) | (simp; omega) | omega)))) hb)); obtain ⟨s_0, s_1, s_2, s_3⟩ := hkeep.out _ (below_st (show Below w2.heap.size w2 _ from by repeat (first | (with_reducible exact Below.refl _ _) | (with_reducible exact s_0) | (with_reducible refine below_al ?_ _) | (with_reducible refine below_dr ?_ _) | (with_reducible refine below_d1 ?_) | ((with_reducible refine Below.setCell ?_ ?_ _); rotate_left; (next => first | (simp; done) | (simp; omega) | omega)))) hb); clear hb o_ l_ n_ p_0 p_1) | (go_at_call 36; refine (sReady_calls x0 x1 _ (r_s0.out.below (by repeat (first | (with_reducible exact Below.refl _ _) | (with_reducible exact Below.refl _ _) | (with_reducible refine below_al ?_ _) | (with_reducible refine below_dr ?_ _) | (with_reducible refine below_d1 ?_) | ((with_reducible refine Below.setCell ?_ ?_ _); rotate_left; (next => first | (simp; done) | (simp; omega) | omega))))) (r_s1.out.below (by repeat (first | (with_reducible exact Below.refl _ _) | (with_reducible exact Below.refl _ _) | (with_reducible refine below_al ?_ _) | (with_reducible refine below_dr ?_ _) | (with_reducible refine below_d1 ?_) | ((with_reducible refine Below.setCell ?_ ?_ _); rotate_left; (next => first | (simp; done) | (simp; omega) | omega))))) (Web.zsm hz0.out)).mono ?_; rw [gx]; rintro e w3 ⟨v_, rfl, hM, hb⟩; have I_w0 : Asd (Iv _ w3.heap.size w3 ([strsT 9 g]) [v_]) := Asd.mk ((Iv.of_lie hM.lie).mono (Nat.le_refl _) (Nat.le_refl _)); obtain ⟨F_, o_, _, _⟩ := hM; obtain ⟨Aw0, Cw0, rfl, _, _⟩ := own_slice o_; clear o_; obtain ⟨s_0, s_1, s_2, s_3⟩ := hkeep.out _ (below_st (show Below w2.heap.size w2 _ from by repeat (first | (with_reducible exact Below.refl _ _) | (with_reducible exact s_0) | (with_reducible refine below_al ?_ _) | (with_reducible refine below_dr ?_ _) | (with_reducible refine below_d1 ?_) | ((with_reducible refine Below.setCell ?_ ?_ _); rotate_left; (next => first | (simp; done) | (simp; omega) | omega)))) hb); clear hb))
  have hF : Far 0 0 w2 w3 := Far.of_below s_0
  clear hkeep s_0 s_1 s_2 s_3 r_s0 r_s1
  have zs3 : w2.heap.size ≤ w3.heap.size := by have := hF.size; (try simp at this); omega
  replace c0_0 : w3.cell? ⟨w.heap.size, 0, none⟩ = some (.slice A0_0 x0.Nodes.length C0_0) := by rw [hF.cell (by first | (simp; done) | (simp; omega) | omega) (by omega)]; first | exact c0_0 | go_simp
  replace c1_0 : w3.cell? ⟨w.heap.size + 1, 0, none⟩ = some (.slice A1_0 x1.Roots.length C1_0) := by rw [hF.cell (by first | (simp; done) | (simp; omega) | omega) (by omega)]; first | exact c1_0 | go_simp
  replace c1_1 : w3.cell? ⟨w.heap.size + 1, 1, none⟩ = some (.slice A1_1 x1.Runs.length C1_1) := by rw [hF.cell (by first | (simp; done) | (simp; omega) | omega) (by omega)]; first | exact c1_1 | go_simp
  replace z0 : w.heap.size < w3.heap.size := by omega
  replace z1 : w.heap.size + 1 < w3.heap.size := by omega
  have HB_3 := Asd.mk (Far.trans3 (HB_2.out) hF (by omega))
  clear hF
  go_wp2_with fail
  refine (toWeb_calls x0 _ (H0.out.below (HB_3.out)) (by omega)).mono ?_
  rintro e w4 ⟨us, rfl, hM, hb⟩
  have hF := Far.of_below hb
  have I_i0 : Asd (Iv (w3.heap.size) w4.heap.size w4 (x0.c 113 121 213) us) := Asd.mk ((Iv.of_mades hM).mono (by simp) (Nat.le_refl _))
  obtain ⟨F_, o_, _, _⟩ := hM
  obtain ⟨v_0, G_0, rfl, p_0, rfl⟩ := Web.oopen o_
  obtain ⟨Ai0_0, Ci0_0, rfl, _, _⟩ := own_slice p_0
  clear o_ p_0
  have zs4 : w3.heap.size ≤ w4.heap.size := by have := hF.size; (try simp at this); omega
  replace c0_0 : w4.cell? ⟨w.heap.size, 0, none⟩ = some (.slice A0_0 x0.Nodes.length C0_0) := by rw [hF.cell (by first | (simp; done) | (simp; omega) | omega) (by omega)]; first | exact c0_0 | go_simp
  replace c1_0 : w4.cell? ⟨w.heap.size + 1, 0, none⟩ = some (.slice A1_0 x1.Roots.length C1_0) := by rw [hF.cell (by first | (simp; done) | (simp; omega) | omega) (by omega)]; first | exact c1_0 | go_simp
  replace c1_1 : w4.cell? ⟨w.heap.size + 1, 1, none⟩ = some (.slice A1_1 x1.Runs.length C1_1) := by rw [hF.cell (by first | (simp; done) | (simp; omega) | omega) (by omega)]; first | exact c1_1 | go_simp
  replace z0 : w.heap.size < w4.heap.size := by omega
  replace z1 : w.heap.size + 1 < w4.heap.size := by omega
  have HB_4 := Asd.mk (Far.trans3 (HB_3.out) hF (by omega))
  replace I_w0 := Asd.mk ((I_w0.out.below (Below.refl _ _)).far hF (by omega))
  clear hF hb
  go_wp2_with fail
  refine (toState_calls x1 _ (H1.out.below (below_al (HB_4.out) _)) (by omega)).mono ?_
  rintro e w5 ⟨us, rfl, hM, hb⟩
  have hF := Far.of_below hb
  have I_i1 : Asd (Iv (w4.heap.size + 1) w5.heap.size w5 (x1.c 84) us) := Asd.mk ((Iv.of_mades hM).mono (by simp) (Nat.le_refl _))
  obtain ⟨F_, o_, _, _⟩ := hM
  obtain ⟨v_0, G_0, v_1, G_1, rfl, p_0, p_1, rfl⟩ := State.oopen o_
  obtain ⟨Ai1_0, Ci1_0, rfl, _, _⟩ := own_slice p_0
  obtain ⟨Ai1_1, Ci1_1, rfl, _, _⟩ := own_slice p_1
  clear o_ p_0 p_1
  have zs5 : w4.heap.size + 1 ≤ w5.heap.size := by have := hF.size; (try simp at this); omega
  replace c0_0 : w5.cell? ⟨w.heap.size, 0, none⟩ = some (.slice A0_0 x0.Nodes.length C0_0) := by rw [hF.cell (by first | (simp; done) | (simp; omega) | omega) (by omega)]; first | exact c0_0 | go_simp
  replace c1_0 : w5.cell? ⟨w.heap.size + 1, 0, none⟩ = some (.slice A1_0 x1.Roots.length C1_0) := by rw [hF.cell (by first | (simp; done) | (simp; omega) | omega) (by omega)]; first | exact c1_0 | go_simp
  replace c1_1 : w5.cell? ⟨w.heap.size + 1, 1, none⟩ = some (.slice A1_1 x1.Runs.length C1_1) := by rw [hF.cell (by first | (simp; done) | (simp; omega) | omega) (by omega)]; first | exact c1_1 | go_simp
  have c2_0 : w5.cell? ⟨w4.heap.size, 0, none⟩ = some (.slice Ai0_0 x0.Nodes.length Ci0_0) := by rw [hF.cell (by first | (simp; done) | (simp; omega) | omega) (by omega)]; first | exact c2_0 | go_simp
  replace z0 : w.heap.size < w5.heap.size := by omega
  replace z1 : w.heap.size + 1 < w5.heap.size := by omega
  have z2 : w4.heap.size < w5.heap.size := by omega
  have HB_5 := Asd.mk (Far.trans3 (below_al (HB_4.out) _) hF (by omega))
  replace I_w0 := Asd.mk ((I_w0.out.below (below_al (Below.refl _ _) _)).far hF (by omega))
  replace I_i0 := Asd.mk ((I_i0.out.below (below_al (Below.refl _ _) _)).far hF (by omega))
  clear hF hb
  go_wp2_with fail
  refine (Ready_calls x0 x1 _ (I_i0.out.reps.below (below_al (Below.refl _ _) _)) (I_i1.out.reps.below (below_al (Below.refl _ _) _)) (Web.zsm hz0.out) (Nat.lt_of_lt_of_le hg (below_al (HB_5.out) _).size) (cell_below (below_al (HB_5.out) _) ht)).mono ?_
  rw [gx]
  rintro e w6 ⟨v_, rfl, hM, hb⟩
  have hF := Far.of_below hb
  have I_g0 : Asd (Iv (w5.heap.size + 1) w6.heap.size w6 ([strsT 9 g]) [v_]) := Asd.mk ((Iv.of_lie hM.lie).mono (by simp) (Nat.le_refl _))
  obtain ⟨F_, o_, _, _⟩ := hM
  obtain ⟨Ag0, Cg0, rfl, _, _⟩ := own_slice o_
  clear o_
  have zs6 : w5.heap.size + 1 ≤ w6.heap.size := by have := hF.size; (try simp at this); omega
  replace c0_0 : w6.cell? ⟨w.heap.size, 0, none⟩ = some (.slice A0_0 x0.Nodes.length C0_0) := by rw [hF.cell (by first | (simp; done) | (simp; omega) | omega) (by omega)]; first | exact c0_0 | go_simp
  replace c1_0 : w6.cell? ⟨w.heap.size + 1, 0, none⟩ = some (.slice A1_0 x1.Roots.length C1_0) := by rw [hF.cell (by first | (simp; done) | (simp; omega) | omega) (by omega)]; first | exact c1_0 | go_simp
  replace c1_1 : w6.cell? ⟨w.heap.size + 1, 1, none⟩ = some (.slice A1_1 x1.Runs.length C1_1) := by rw [hF.cell (by first | (simp; done) | (simp; omega) | omega) (by omega)]; first | exact c1_1 | go_simp
  replace c2_0 : w6.cell? ⟨w4.heap.size, 0, none⟩ = some (.slice Ai0_0 x0.Nodes.length Ci0_0) := by rw [hF.cell (by first | (simp; done) | (simp; omega) | omega) (by omega)]; first | exact c2_0 | go_simp
  have c3_0 : w6.cell? ⟨w5.heap.size, 0, none⟩ = some (.slice Ai1_0 x1.Roots.length Ci1_0) := by rw [hF.cell (by first | (simp; done) | (simp; omega) | omega) (by omega)]; first | exact c3_0 | go_simp
  have c3_1 : w6.cell? ⟨w5.heap.size, 1, none⟩ = some (.slice Ai1_1 x1.Runs.length Ci1_1) := by rw [hF.cell (by first | (simp; done) | (simp; omega) | omega) (by omega)]; first | exact c3_1 | go_simp
  replace z0 : w.heap.size < w6.heap.size := by omega
  replace z1 : w.heap.size + 1 < w6.heap.size := by omega
  replace z2 : w4.heap.size < w6.heap.size := by omega
  have z3 : w5.heap.size < w6.heap.size := by omega
  have HB_6 := Asd.mk (Far.trans3 (below_al (HB_5.out) _) hF (by omega))
  replace I_w0 := Asd.mk ((I_w0.out.below (below_al (Below.refl _ _) _)).far hF (by omega))
  replace I_i0 := Asd.mk ((I_i0.out.below (below_al (Below.refl _ _) _)).far hF (by omega))
  replace I_i1 := Asd.mk ((I_i1.out.below (below_al (Below.refl _ _) _)).far hF (by omega))
  clear hF hb
  have y_0 : eqB (g) (g) = true := eqB_yes rfl
  go_wp2_with fail
  refine (eqStringS_calls (g) (g) _ _ _ (reps_one (I_g0.out.reps.below (Below.refl _ _))) (reps_one (I_w0.out.reps.below (Below.refl _ _)))).mono ?_
  rintro e w7 ⟨rfl, hb⟩
  have hF := Far.of_below hb
  have zs7 : w6.heap.size ≤ w7.heap.size := by have := hF.size; (try simp at this); omega
  replace c0_0 : w7.cell? ⟨w.heap.size, 0, none⟩ = some (.slice A0_0 x0.Nodes.length C0_0) := by rw [hF.cell (by first | (simp; done) | (simp; omega) | omega) (by omega)]; first | exact c0_0 | go_simp
  replace c1_0 : w7.cell? ⟨w.heap.size + 1, 0, none⟩ = some (.slice A1_0 x1.Roots.length C1_0) := by rw [hF.cell (by first | (simp; done) | (simp; omega) | omega) (by omega)]; first | exact c1_0 | go_simp
  replace c1_1 : w7.cell? ⟨w.heap.size + 1, 1, none⟩ = some (.slice A1_1 x1.Runs.length C1_1) := by rw [hF.cell (by first | (simp; done) | (simp; omega) | omega) (by omega)]; first | exact c1_1 | go_simp
  replace c2_0 : w7.cell? ⟨w4.heap.size, 0, none⟩ = some (.slice Ai0_0 x0.Nodes.length Ci0_0) := by rw [hF.cell (by first | (simp; done) | (simp; omega) | omega) (by omega)]; first | exact c2_0 | go_simp
  replace c3_0 : w7.cell? ⟨w5.heap.size, 0, none⟩ = some (.slice Ai1_0 x1.Roots.length Ci1_0) := by rw [hF.cell (by first | (simp; done) | (simp; omega) | omega) (by omega)]; first | exact c3_0 | go_simp
  replace c3_1 : w7.cell? ⟨w5.heap.size, 1, none⟩ = some (.slice Ai1_1 x1.Runs.length Ci1_1) := by rw [hF.cell (by first | (simp; done) | (simp; omega) | omega) (by omega)]; first | exact c3_1 | go_simp
  replace z0 : w.heap.size < w7.heap.size := by omega
  replace z1 : w.heap.size + 1 < w7.heap.size := by omega
  replace z2 : w4.heap.size < w7.heap.size := by omega
  replace z3 : w5.heap.size < w7.heap.size := by omega
  have HB_7 := Asd.mk (Far.trans3 (HB_6.out) hF (by omega))
  replace I_w0 := Asd.mk ((I_w0.out.below (Below.refl _ _)).far hF (by omega))
  replace I_i0 := Asd.mk ((I_i0.out.below (Below.refl _ _)).far hF (by omega))
  replace I_i1 := Asd.mk ((I_i1.out.below (Below.refl _ _)).far hF (by omega))
  replace I_g0 := Asd.mk ((I_g0.out.below (Below.refl _ _)).far hF (by omega))
  clear hF hb
  have yx_0 : eqB x0 x0 = true := eqB_yes rfl
  have hkeep : ∀ W W', Below W.heap.size W W' → (Below w7.heap.size w7 W ∧ W.cell? ⟨w.heap.size, 0, none⟩ = some (.slice A0_0 x0.Nodes.length C0_0) ∧ W.cell? ⟨w4.heap.size, 0, none⟩ = some (.slice Ai0_0 x0.Nodes.length Ci0_0)) → (Below w7.heap.size w7 W' ∧ W'.cell? ⟨w.heap.size, 0, none⟩ = some (.slice A0_0 x0.Nodes.length C0_0) ∧ W'.cell? ⟨w4.heap.size, 0, none⟩ = some (.slice Ai0_0 x0.Nodes.length Ci0_0)) := by
    rintro W W' hb ⟨q_0, q_1, q_2⟩
    exact ⟨below_st q_0 hb, cell_below hb q_1, cell_below hb q_2⟩
  replace hkeep := Asd.mk hkeep
  have hbs : Below w7.heap.size w7 w7.drew := (Below.refl _ _).drew
  go_wp2
  go_region_held3 (fun W => Below w7.heap.size w7 W ∧ W.cell? ⟨w.heap.size, 0, none⟩ = some (.slice A0_0 x0.Nodes.length C0_0) ∧ W.cell? ⟨w4.heap.size, 0, none⟩ = some (.slice Ai0_0 x0.Nodes.length Ci0_0)) (go_keep)
    (first | (go_at_call 18; refine (toWeb_calls x0 _ (H0.out.below (below_st HB_7.out (by assumption))) (by omega)).mono ?_; rintro e W6 ⟨us, rfl, ⟨F_, o_, n_, l_⟩, hb⟩; obtain ⟨v_0, G_0, rfl, p_0, rfl⟩ := Web.oopen o_; obtain ⟨D_0, d_0, rfl, _, _⟩ := own_slice p_0; have r6 := Asd.mk o_.rep; obtain ⟨s_0, s_1, s_2⟩ := hkeep.out _ _ hb ⟨by assumption, by first | assumption | exact c0_0, by first | assumption | exact c2_0⟩; clear hb o_ l_ p_0) | (go_at_call 21; refine (eqWeb_calls x0 x0 _ (I_i0.out.reps.below (by assumption)) r6.out).mono ?_; rintro e w8 ⟨rfl, hb⟩; obtain ⟨s_0, s_1, s_2⟩ := hkeep.out _ _ hb ⟨by assumption, by first | assumption | exact c0_0, by first | assumption | exact c2_0⟩; clear hb))
  have hF : Far 0 0 w7 w8 := Far.of_below s_0
  clear hkeep s_0 s_1 s_2 r6 hbs
  have zs8 : w7.heap.size ≤ w8.heap.size := by have := hF.size; (try simp at this); omega
  replace c0_0 : w8.cell? ⟨w.heap.size, 0, none⟩ = some (.slice A0_0 x0.Nodes.length C0_0) := by rw [hF.cell (by first | (simp; done) | (simp; omega) | omega) (by omega)]; first | exact c0_0 | go_simp
  replace c1_0 : w8.cell? ⟨w.heap.size + 1, 0, none⟩ = some (.slice A1_0 x1.Roots.length C1_0) := by rw [hF.cell (by first | (simp; done) | (simp; omega) | omega) (by omega)]; first | exact c1_0 | go_simp
  replace c1_1 : w8.cell? ⟨w.heap.size + 1, 1, none⟩ = some (.slice A1_1 x1.Runs.length C1_1) := by rw [hF.cell (by first | (simp; done) | (simp; omega) | omega) (by omega)]; first | exact c1_1 | go_simp
  replace c2_0 : w8.cell? ⟨w4.heap.size, 0, none⟩ = some (.slice Ai0_0 x0.Nodes.length Ci0_0) := by rw [hF.cell (by first | (simp; done) | (simp; omega) | omega) (by omega)]; first | exact c2_0 | go_simp
  replace c3_0 : w8.cell? ⟨w5.heap.size, 0, none⟩ = some (.slice Ai1_0 x1.Roots.length Ci1_0) := by rw [hF.cell (by first | (simp; done) | (simp; omega) | omega) (by omega)]; first | exact c3_0 | go_simp
  replace c3_1 : w8.cell? ⟨w5.heap.size, 1, none⟩ = some (.slice Ai1_1 x1.Runs.length Ci1_1) := by rw [hF.cell (by first | (simp; done) | (simp; omega) | omega) (by omega)]; first | exact c3_1 | go_simp
  replace z0 : w.heap.size < w8.heap.size := by omega
  replace z1 : w.heap.size + 1 < w8.heap.size := by omega
  replace z2 : w4.heap.size < w8.heap.size := by omega
  replace z3 : w5.heap.size < w8.heap.size := by omega
  have HB_8 := Asd.mk (Far.trans3 (HB_7.out) hF (by omega))
  replace I_w0 := Asd.mk ((I_w0.out.below (Below.refl _ _)).far hF (by omega))
  replace I_i0 := Asd.mk ((I_i0.out.below (Below.refl _ _)).far hF (by omega))
  replace I_i1 := Asd.mk ((I_i1.out.below (Below.refl _ _)).far hF (by omega))
  replace I_g0 := Asd.mk ((I_g0.out.below (Below.refl _ _)).far hF (by omega))
  clear hF
  have yx_1 : eqB x1 x1 = true := eqB_yes rfl
  have hkeep : ∀ W W', Below W.heap.size W W' → (Below w8.heap.size w8 W ∧ W.cell? ⟨w.heap.size + 1, 0, none⟩ = some (.slice A1_0 x1.Roots.length C1_0) ∧ W.cell? ⟨w.heap.size + 1, 1, none⟩ = some (.slice A1_1 x1.Runs.length C1_1) ∧ W.cell? ⟨w5.heap.size, 0, none⟩ = some (.slice Ai1_0 x1.Roots.length Ci1_0) ∧ W.cell? ⟨w5.heap.size, 1, none⟩ = some (.slice Ai1_1 x1.Runs.length Ci1_1)) → (Below w8.heap.size w8 W' ∧ W'.cell? ⟨w.heap.size + 1, 0, none⟩ = some (.slice A1_0 x1.Roots.length C1_0) ∧ W'.cell? ⟨w.heap.size + 1, 1, none⟩ = some (.slice A1_1 x1.Runs.length C1_1) ∧ W'.cell? ⟨w5.heap.size, 0, none⟩ = some (.slice Ai1_0 x1.Roots.length Ci1_0) ∧ W'.cell? ⟨w5.heap.size, 1, none⟩ = some (.slice Ai1_1 x1.Runs.length Ci1_1)) := by
    rintro W W' hb ⟨q_0, q_1, q_2, q_3, q_4⟩
    exact ⟨below_st q_0 hb, cell_below hb q_1, cell_below hb q_2, cell_below hb q_3, cell_below hb q_4⟩
  replace hkeep := Asd.mk hkeep
  have hbs : Below w8.heap.size w8 w8.drew := (Below.refl _ _).drew
  go_wp2
  go_region_held3 (fun W => Below w8.heap.size w8 W ∧ W.cell? ⟨w.heap.size + 1, 0, none⟩ = some (.slice A1_0 x1.Roots.length C1_0) ∧ W.cell? ⟨w.heap.size + 1, 1, none⟩ = some (.slice A1_1 x1.Runs.length C1_1) ∧ W.cell? ⟨w5.heap.size, 0, none⟩ = some (.slice Ai1_0 x1.Roots.length Ci1_0) ∧ W.cell? ⟨w5.heap.size, 1, none⟩ = some (.slice Ai1_1 x1.Runs.length Ci1_1)) (go_keep)
    (first | (go_at_call 19; refine (toState_calls x1 _ (H1.out.below (below_st HB_8.out (by assumption))) (by omega)).mono ?_; rintro e W6 ⟨us, rfl, ⟨F_, o_, n_, l_⟩, hb⟩; obtain ⟨v_0, G_0, v_1, G_1, rfl, p_0, p_1, rfl⟩ := State.oopen o_; obtain ⟨D_0, d_0, rfl, _, _⟩ := own_slice p_0; obtain ⟨D_1, d_1, rfl, _, _⟩ := own_slice p_1; have r6 := Asd.mk o_.rep; obtain ⟨s_0, s_1, s_2, s_3, s_4⟩ := hkeep.out _ _ hb ⟨by assumption, by first | assumption | exact c1_0, by first | assumption | exact c1_1, by first | assumption | exact c3_0, by first | assumption | exact c3_1⟩; clear hb o_ l_ p_0 p_1) | (go_at_call 22; refine (eqState_calls x1 x1 _ (I_i1.out.reps.below (by assumption)) r6.out).mono ?_; rintro e w9 ⟨rfl, hb⟩; obtain ⟨s_0, s_1, s_2, s_3, s_4⟩ := hkeep.out _ _ hb ⟨by assumption, by first | assumption | exact c1_0, by first | assumption | exact c1_1, by first | assumption | exact c3_0, by first | assumption | exact c3_1⟩; clear hb))
  have hF : Far 0 0 w8 w9 := Far.of_below s_0
  clear hkeep s_0 s_1 s_2 s_3 s_4 r6 hbs
  have zs9 : w8.heap.size ≤ w9.heap.size := by have := hF.size; (try simp at this); omega
  replace c0_0 : w9.cell? ⟨w.heap.size, 0, none⟩ = some (.slice A0_0 x0.Nodes.length C0_0) := by rw [hF.cell (by first | (simp; done) | (simp; omega) | omega) (by omega)]; first | exact c0_0 | go_simp
  replace c1_0 : w9.cell? ⟨w.heap.size + 1, 0, none⟩ = some (.slice A1_0 x1.Roots.length C1_0) := by rw [hF.cell (by first | (simp; done) | (simp; omega) | omega) (by omega)]; first | exact c1_0 | go_simp
  replace c1_1 : w9.cell? ⟨w.heap.size + 1, 1, none⟩ = some (.slice A1_1 x1.Runs.length C1_1) := by rw [hF.cell (by first | (simp; done) | (simp; omega) | omega) (by omega)]; first | exact c1_1 | go_simp
  replace c2_0 : w9.cell? ⟨w4.heap.size, 0, none⟩ = some (.slice Ai0_0 x0.Nodes.length Ci0_0) := by rw [hF.cell (by first | (simp; done) | (simp; omega) | omega) (by omega)]; first | exact c2_0 | go_simp
  replace c3_0 : w9.cell? ⟨w5.heap.size, 0, none⟩ = some (.slice Ai1_0 x1.Roots.length Ci1_0) := by rw [hF.cell (by first | (simp; done) | (simp; omega) | omega) (by omega)]; first | exact c3_0 | go_simp
  replace c3_1 : w9.cell? ⟨w5.heap.size, 1, none⟩ = some (.slice Ai1_1 x1.Runs.length Ci1_1) := by rw [hF.cell (by first | (simp; done) | (simp; omega) | omega) (by omega)]; first | exact c3_1 | go_simp
  replace z0 : w.heap.size < w9.heap.size := by omega
  replace z1 : w.heap.size + 1 < w9.heap.size := by omega
  replace z2 : w4.heap.size < w9.heap.size := by omega
  replace z3 : w5.heap.size < w9.heap.size := by omega
  have HB_9 := Asd.mk (Far.trans3 (HB_8.out) hF (by omega))
  replace I_w0 := Asd.mk ((I_w0.out.below (Below.refl _ _)).far hF (by omega))
  replace I_i0 := Asd.mk ((I_i0.out.below (Below.refl _ _)).far hF (by omega))
  replace I_i1 := Asd.mk ((I_i1.out.below (Below.refl _ _)).far hF (by omega))
  replace I_g0 := Asd.mk ((I_g0.out.below (Below.refl _ _)).far hF (by omega))
  clear hF
  go_wp2_with fail
  refine (markWeb_calls (x0) _ _ (1) _ _ (by first | rfl | omega) (I_i0.out.below (Below.refl _ _)) (by omega) (by have := ka0.out; omega)).mono ?_
  rintro e w10 ⟨he, hI, hF⟩
  rw [ka0.out] at he
  subst he
  replace hI := Asd.mk hI
  have zs10 : w9.heap.size ≤ w10.heap.size := by have := hF.size; (try simp at this); omega
  replace c0_0 : w10.cell? ⟨w.heap.size, 0, none⟩ = some (.slice A0_0 x0.Nodes.length C0_0) := by rw [hF.cell (by first | (simp; done) | (simp; omega) | omega) (by omega)]; first | exact c0_0 | go_simp
  replace c1_0 : w10.cell? ⟨w.heap.size + 1, 0, none⟩ = some (.slice A1_0 x1.Roots.length C1_0) := by rw [hF.cell (by first | (simp; done) | (simp; omega) | omega) (by omega)]; first | exact c1_0 | go_simp
  replace c1_1 : w10.cell? ⟨w.heap.size + 1, 1, none⟩ = some (.slice A1_1 x1.Runs.length C1_1) := by rw [hF.cell (by first | (simp; done) | (simp; omega) | omega) (by omega)]; first | exact c1_1 | go_simp
  replace c2_0 : w10.cell? ⟨w4.heap.size, 0, none⟩ = some (.slice Ai0_0 x0.Nodes.length Ci0_0) := by rw [hF.cell (by first | (simp; done) | (simp; omega) | omega) (by omega)]; first | exact c2_0 | go_simp
  replace c3_0 : w10.cell? ⟨w5.heap.size, 0, none⟩ = some (.slice Ai1_0 x1.Roots.length Ci1_0) := by rw [hF.cell (by first | (simp; done) | (simp; omega) | omega) (by omega)]; first | exact c3_0 | go_simp
  replace c3_1 : w10.cell? ⟨w5.heap.size, 1, none⟩ = some (.slice Ai1_1 x1.Runs.length Ci1_1) := by rw [hF.cell (by first | (simp; done) | (simp; omega) | omega) (by omega)]; first | exact c3_1 | go_simp
  replace z0 : w.heap.size < w10.heap.size := by omega
  replace z1 : w.heap.size + 1 < w10.heap.size := by omega
  replace z2 : w4.heap.size < w10.heap.size := by omega
  replace z3 : w5.heap.size < w10.heap.size := by omega
  have HB_10 := Asd.mk (Far.trans3 (HB_9.out) hF (by omega))
  replace I_w0 := Asd.mk ((I_w0.out.below (Below.refl _ _)).far hF (by omega))
  replace I_i1 := Asd.mk ((I_i1.out.below (Below.refl _ _)).far hF (by omega))
  replace I_g0 := Asd.mk ((I_g0.out.below (Below.refl _ _)).far hF (by omega))
  clear hF
  clear I_i0 hI
  go_wp2_with fail
  refine (markState_calls (x1) _ _ (KA0) _ _ (by first | rfl | omega) (I_i1.out.below (Below.refl _ _)) (by omega) (by have := ka1.out; omega)).mono ?_
  rintro e w11 ⟨he, hI, hF⟩
  rw [ka1.out] at he
  subst he
  replace hI := Asd.mk hI
  have zs11 : w10.heap.size ≤ w11.heap.size := by have := hF.size; (try simp at this); omega
  replace c0_0 : w11.cell? ⟨w.heap.size, 0, none⟩ = some (.slice A0_0 x0.Nodes.length C0_0) := by rw [hF.cell (by first | (simp; done) | (simp; omega) | omega) (by omega)]; first | exact c0_0 | go_simp
  replace c1_0 : w11.cell? ⟨w.heap.size + 1, 0, none⟩ = some (.slice A1_0 x1.Roots.length C1_0) := by rw [hF.cell (by first | (simp; done) | (simp; omega) | omega) (by omega)]; first | exact c1_0 | go_simp
  replace c1_1 : w11.cell? ⟨w.heap.size + 1, 1, none⟩ = some (.slice A1_1 x1.Runs.length C1_1) := by rw [hF.cell (by first | (simp; done) | (simp; omega) | omega) (by omega)]; first | exact c1_1 | go_simp
  replace c2_0 : w11.cell? ⟨w4.heap.size, 0, none⟩ = some (.slice Ai0_0 x0.Nodes.length Ci0_0) := by rw [hF.cell (by first | (simp; done) | (simp; omega) | omega) (by omega)]; first | exact c2_0 | go_simp
  replace c3_0 : w11.cell? ⟨w5.heap.size, 0, none⟩ = some (.slice Ai1_0 x1.Roots.length Ci1_0) := by rw [hF.cell (by first | (simp; done) | (simp; omega) | omega) (by omega)]; first | exact c3_0 | go_simp
  replace c3_1 : w11.cell? ⟨w5.heap.size, 1, none⟩ = some (.slice Ai1_1 x1.Runs.length Ci1_1) := by rw [hF.cell (by first | (simp; done) | (simp; omega) | omega) (by omega)]; first | exact c3_1 | go_simp
  replace z0 : w.heap.size < w11.heap.size := by omega
  replace z1 : w.heap.size + 1 < w11.heap.size := by omega
  replace z2 : w4.heap.size < w11.heap.size := by omega
  replace z3 : w5.heap.size < w11.heap.size := by omega
  have HB_11 := Asd.mk (Far.trans3 (HB_10.out) hF (by omega))
  replace I_w0 := Asd.mk ((I_w0.out.below (Below.refl _ _)).far hF (by omega))
  replace I_g0 := Asd.mk ((I_g0.out.below (Below.refl _ _)).far hF (by omega))
  clear hF
  clear I_i1 hI
  go_wp2_with fail
  refine (eqStringS_calls (g) (g) _ _ _ (reps_one (I_g0.out.reps.below (Below.refl _ _))) (reps_one (I_w0.out.reps.below (Below.refl _ _)))).mono ?_
  rintro e w12 ⟨rfl, hb⟩
  have hF := Far.of_below hb
  have zs12 : w11.heap.size ≤ w12.heap.size := by have := hF.size; (try simp at this); omega
  replace c0_0 : w12.cell? ⟨w.heap.size, 0, none⟩ = some (.slice A0_0 x0.Nodes.length C0_0) := by rw [hF.cell (by first | (simp; done) | (simp; omega) | omega) (by omega)]; first | exact c0_0 | go_simp
  replace c1_0 : w12.cell? ⟨w.heap.size + 1, 0, none⟩ = some (.slice A1_0 x1.Roots.length C1_0) := by rw [hF.cell (by first | (simp; done) | (simp; omega) | omega) (by omega)]; first | exact c1_0 | go_simp
  replace c1_1 : w12.cell? ⟨w.heap.size + 1, 1, none⟩ = some (.slice A1_1 x1.Runs.length C1_1) := by rw [hF.cell (by first | (simp; done) | (simp; omega) | omega) (by omega)]; first | exact c1_1 | go_simp
  replace c2_0 : w12.cell? ⟨w4.heap.size, 0, none⟩ = some (.slice Ai0_0 x0.Nodes.length Ci0_0) := by rw [hF.cell (by first | (simp; done) | (simp; omega) | omega) (by omega)]; first | exact c2_0 | go_simp
  replace c3_0 : w12.cell? ⟨w5.heap.size, 0, none⟩ = some (.slice Ai1_0 x1.Roots.length Ci1_0) := by rw [hF.cell (by first | (simp; done) | (simp; omega) | omega) (by omega)]; first | exact c3_0 | go_simp
  replace c3_1 : w12.cell? ⟨w5.heap.size, 1, none⟩ = some (.slice Ai1_1 x1.Runs.length Ci1_1) := by rw [hF.cell (by first | (simp; done) | (simp; omega) | omega) (by omega)]; first | exact c3_1 | go_simp
  replace z0 : w.heap.size < w12.heap.size := by omega
  replace z1 : w.heap.size + 1 < w12.heap.size := by omega
  replace z2 : w4.heap.size < w12.heap.size := by omega
  replace z3 : w5.heap.size < w12.heap.size := by omega
  have HB_12 := Asd.mk (Far.trans3 (HB_11.out) hF (by omega))
  replace I_w0 := Asd.mk ((I_w0.out.below (Below.refl _ _)).far hF (by omega))
  replace I_g0 := Asd.mk ((I_g0.out.below (Below.refl _ _)).far hF (by omega))
  clear hF hb
  go_wp2_with fail
  refine (markStringS_iv (g) _ _ (1) _ _ _ (by first | rfl | omega) (I_g0.out.below (Below.refl _ _)) (by omega) (by have := kg0.out; omega)).mono ?_
  rintro e w13 ⟨he, hI, hF⟩
  rw [kg0.out] at he
  subst he
  replace hI := Asd.mk hI
  have zs13 : w12.heap.size ≤ w13.heap.size := by have := hF.size; (try simp at this); omega
  replace c0_0 : w13.cell? ⟨w.heap.size, 0, none⟩ = some (.slice A0_0 x0.Nodes.length C0_0) := by rw [hF.cell (by first | (simp; done) | (simp; omega) | omega) (by omega)]; first | exact c0_0 | go_simp
  replace c1_0 : w13.cell? ⟨w.heap.size + 1, 0, none⟩ = some (.slice A1_0 x1.Roots.length C1_0) := by rw [hF.cell (by first | (simp; done) | (simp; omega) | omega) (by omega)]; first | exact c1_0 | go_simp
  replace c1_1 : w13.cell? ⟨w.heap.size + 1, 1, none⟩ = some (.slice A1_1 x1.Runs.length C1_1) := by rw [hF.cell (by first | (simp; done) | (simp; omega) | omega) (by omega)]; first | exact c1_1 | go_simp
  replace c2_0 : w13.cell? ⟨w4.heap.size, 0, none⟩ = some (.slice Ai0_0 x0.Nodes.length Ci0_0) := by rw [hF.cell (by first | (simp; done) | (simp; omega) | omega) (by omega)]; first | exact c2_0 | go_simp
  replace c3_0 : w13.cell? ⟨w5.heap.size, 0, none⟩ = some (.slice Ai1_0 x1.Roots.length Ci1_0) := by rw [hF.cell (by first | (simp; done) | (simp; omega) | omega) (by omega)]; first | exact c3_0 | go_simp
  replace c3_1 : w13.cell? ⟨w5.heap.size, 1, none⟩ = some (.slice Ai1_1 x1.Runs.length Ci1_1) := by rw [hF.cell (by first | (simp; done) | (simp; omega) | omega) (by omega)]; first | exact c3_1 | go_simp
  replace z0 : w.heap.size < w13.heap.size := by omega
  replace z1 : w.heap.size + 1 < w13.heap.size := by omega
  replace z2 : w4.heap.size < w13.heap.size := by omega
  replace z3 : w5.heap.size < w13.heap.size := by omega
  have HB_13 := Asd.mk (Far.trans3 (HB_12.out) hF (by omega))
  replace I_w0 := Asd.mk ((I_w0.out.below (Below.refl _ _)).far hF (by omega))
  clear hF
  clear I_g0
  have I_m0 := hI
  clear hI
  go_wp2_with fail
  refine (heldStringS_iv (g) _ _ (1) _ _ _ (by first | rfl | omega) (I_m0.out.below (Below.refl _ _)) (by omega) (by have := kg0.out; omega)).mono ?_
  rintro e w14 ⟨he, hb⟩
  have hF := Far.of_below hb
  rw [kg0.out] at he
  subst he
  have zs14 : w13.heap.size ≤ w14.heap.size := by have := hF.size; (try simp at this); omega
  replace c0_0 : w14.cell? ⟨w.heap.size, 0, none⟩ = some (.slice A0_0 x0.Nodes.length C0_0) := by rw [hF.cell (by first | (simp; done) | (simp; omega) | omega) (by omega)]; first | exact c0_0 | go_simp
  replace c1_0 : w14.cell? ⟨w.heap.size + 1, 0, none⟩ = some (.slice A1_0 x1.Roots.length C1_0) := by rw [hF.cell (by first | (simp; done) | (simp; omega) | omega) (by omega)]; first | exact c1_0 | go_simp
  replace c1_1 : w14.cell? ⟨w.heap.size + 1, 1, none⟩ = some (.slice A1_1 x1.Runs.length C1_1) := by rw [hF.cell (by first | (simp; done) | (simp; omega) | omega) (by omega)]; first | exact c1_1 | go_simp
  replace c2_0 : w14.cell? ⟨w4.heap.size, 0, none⟩ = some (.slice Ai0_0 x0.Nodes.length Ci0_0) := by rw [hF.cell (by first | (simp; done) | (simp; omega) | omega) (by omega)]; first | exact c2_0 | go_simp
  replace c3_0 : w14.cell? ⟨w5.heap.size, 0, none⟩ = some (.slice Ai1_0 x1.Roots.length Ci1_0) := by rw [hF.cell (by first | (simp; done) | (simp; omega) | omega) (by omega)]; first | exact c3_0 | go_simp
  replace c3_1 : w14.cell? ⟨w5.heap.size, 1, none⟩ = some (.slice Ai1_1 x1.Runs.length Ci1_1) := by rw [hF.cell (by first | (simp; done) | (simp; omega) | omega) (by omega)]; first | exact c3_1 | go_simp
  replace z0 : w.heap.size < w14.heap.size := by omega
  replace z1 : w.heap.size + 1 < w14.heap.size := by omega
  replace z2 : w4.heap.size < w14.heap.size := by omega
  replace z3 : w5.heap.size < w14.heap.size := by omega
  have HB_14 := Asd.mk (Far.trans3 (HB_13.out) hF (by omega))
  replace I_w0 := Asd.mk ((I_w0.out.below (Below.refl _ _)).far hF (by omega))
  replace I_m0 := Asd.mk ((I_m0.out.below (Below.refl _ _)).far hF (by omega))
  clear hF hb
  have hkeep := Asd.mk (show ∀ W, Below w14.heap.size w14 W → (Below w14.heap.size w14 W ∧ W.cell? ⟨w.heap.size, 0, none⟩ = some (.slice A0_0 x0.Nodes.length C0_0) ∧ W.cell? ⟨w.heap.size + 1, 0, none⟩ = some (.slice A1_0 x1.Roots.length C1_0) ∧ W.cell? ⟨w.heap.size + 1, 1, none⟩ = some (.slice A1_1 x1.Runs.length C1_1)) from fun W hb => ⟨hb, cell_below hb c0_0, cell_below hb c1_0, cell_below hb c1_1⟩)
  have s_0 : Below w14.heap.size w14 w14.drew := (Below.refl _ _).drew
  go_wp2
  go_region_held3 (fun W => Below w14.heap.size w14 W ∧ W.cell? ⟨w.heap.size, 0, none⟩ = some (.slice A0_0 x0.Nodes.length C0_0) ∧ W.cell? ⟨w.heap.size + 1, 0, none⟩ = some (.slice A1_0 x1.Roots.length C1_0) ∧ W.cell? ⟨w.heap.size + 1, 1, none⟩ = some (.slice A1_1 x1.Runs.length C1_1)) ((refine hkeep.out _ ?_; (repeat (first | (with_reducible exact Below.refl _ _) | (with_reducible exact s_0) | (with_reducible refine below_al ?_ _) | (with_reducible refine below_dr ?_ _) | (with_reducible refine below_d1 ?_) | ((with_reducible refine Below.setCell ?_ ?_ _); rotate_left; (next => first | (simp; done) | (simp; omega) | omega))))))
    (first | (go_at_call 18; refine (toWeb_calls x0 _ (H0.out.below (below_st (HB_14.out) (show Below w14.heap.size w14 _ from by repeat (first | (with_reducible exact Below.refl _ _) | (with_reducible exact s_0) | (with_reducible refine below_al ?_ _) | (with_reducible refine below_dr ?_ _) | (with_reducible refine below_d1 ?_) | ((with_reducible refine Below.setCell ?_ ?_ _); rotate_left; (next => first | (simp; done) | (simp; omega) | omega)))))) (by omega)).mono ?_; rintro e W0 ⟨us, rfl, ⟨F_, o_, n_, l_⟩, hb⟩; obtain ⟨v_0, G_0, rfl, p_0, rfl⟩ := Web.oopen o_; obtain ⟨D0_0, d0_0, rfl, _, _⟩ := own_slice p_0; have r_s0 := Asd.mk o_.rep; obtain ⟨s_0, s_1, s_2, s_3⟩ := hkeep.out _ (below_st (show Below w14.heap.size w14 _ from by repeat (first | (with_reducible exact Below.refl _ _) | (with_reducible exact s_0) | (with_reducible refine below_al ?_ _) | (with_reducible refine below_dr ?_ _) | (with_reducible refine below_d1 ?_) | ((with_reducible refine Below.setCell ?_ ?_ _); rotate_left; (next => first | (simp; done) | (simp; omega) | omega)))) hb); clear hb o_ l_ n_ p_0) | (go_at_call 19; refine (toState_calls x1 _ (H1.out.below (below_st (HB_14.out) (show Below w14.heap.size w14 _ from by repeat (first | (with_reducible exact Below.refl _ _) | (with_reducible exact s_0) | (with_reducible refine below_al ?_ _) | (with_reducible refine below_dr ?_ _) | (with_reducible refine below_d1 ?_) | ((with_reducible refine Below.setCell ?_ ?_ _); rotate_left; (next => first | (simp; done) | (simp; omega) | omega)))))) (by omega)).mono ?_; rintro e W1 ⟨us, rfl, ⟨F_, o_, n_, l_⟩, hb⟩; obtain ⟨v_0, G_0, v_1, G_1, rfl, p_0, p_1, rfl⟩ := State.oopen o_; obtain ⟨D1_0, d1_0, rfl, _, _⟩ := own_slice p_0; obtain ⟨D1_1, d1_1, rfl, _, _⟩ := own_slice p_1; have r_s1 := Asd.mk o_.rep; replace r_s0 := Asd.mk (r_s0.out.below (below_st (by repeat (first | (with_reducible exact Below.refl _ _) | (with_reducible exact Below.refl _ _) | (with_reducible refine below_al ?_ _) | (with_reducible refine below_dr ?_ _) | (with_reducible refine below_d1 ?_) | ((with_reducible refine Below.setCell ?_ ?_ _); rotate_left; (next => first | (simp; done) | (simp; omega) | omega)))) hb)); obtain ⟨s_0, s_1, s_2, s_3⟩ := hkeep.out _ (below_st (show Below w14.heap.size w14 _ from by repeat (first | (with_reducible exact Below.refl _ _) | (with_reducible exact s_0) | (with_reducible refine below_al ?_ _) | (with_reducible refine below_dr ?_ _) | (with_reducible refine below_d1 ?_) | ((with_reducible refine Below.setCell ?_ ?_ _); rotate_left; (next => first | (simp; done) | (simp; omega) | omega)))) hb); clear hb o_ l_ n_ p_0 p_1) | (go_at_call 37; refine (Ready_calls x0 x1 _ (r_s0.out.below (by repeat (first | (with_reducible exact Below.refl _ _) | (with_reducible exact Below.refl _ _) | (with_reducible refine below_al ?_ _) | (with_reducible refine below_dr ?_ _) | (with_reducible refine below_d1 ?_) | ((with_reducible refine Below.setCell ?_ ?_ _); rotate_left; (next => first | (simp; done) | (simp; omega) | omega))))) (r_s1.out.below (by repeat (first | (with_reducible exact Below.refl _ _) | (with_reducible exact Below.refl _ _) | (with_reducible refine below_al ?_ _) | (with_reducible refine below_dr ?_ _) | (with_reducible refine below_d1 ?_) | ((with_reducible refine Below.setCell ?_ ?_ _); rotate_left; (next => first | (simp; done) | (simp; omega) | omega))))) (Web.zsm hz0.out) (Nat.lt_of_lt_of_le hg (below_st (HB_14.out) (show Below w14.heap.size w14 _ from by repeat (first | (with_reducible exact Below.refl _ _) | (with_reducible exact s_0) | (with_reducible refine below_al ?_ _) | (with_reducible refine below_dr ?_ _) | (with_reducible refine below_d1 ?_) | ((with_reducible refine Below.setCell ?_ ?_ _); rotate_left; (next => first | (simp; done) | (simp; omega) | omega))))).size) (cell_below (below_st (HB_14.out) (show Below w14.heap.size w14 _ from by repeat (first | (with_reducible exact Below.refl _ _) | (with_reducible exact s_0) | (with_reducible refine below_al ?_ _) | (with_reducible refine below_dr ?_ _) | (with_reducible refine below_d1 ?_) | ((with_reducible refine Below.setCell ?_ ?_ _); rotate_left; (next => first | (simp; done) | (simp; omega) | omega))))) ht)).mono ?_; rw [gx]; rintro e w15 ⟨v_, rfl, hM, hb⟩; have I_k0 : Asd (Iv _ w15.heap.size w15 ([strsT 9 g]) [v_]) := Asd.mk ((Iv.of_lie hM.lie).mono (Nat.le_refl _) (Nat.le_refl _)); obtain ⟨F_, o_, _, _⟩ := hM; obtain ⟨Ak0, Ck0, rfl, _, _⟩ := own_slice o_; clear o_; obtain ⟨s_0, s_1, s_2, s_3⟩ := hkeep.out _ (below_st (show Below w14.heap.size w14 _ from by repeat (first | (with_reducible exact Below.refl _ _) | (with_reducible exact s_0) | (with_reducible refine below_al ?_ _) | (with_reducible refine below_dr ?_ _) | (with_reducible refine below_d1 ?_) | ((with_reducible refine Below.setCell ?_ ?_ _); rotate_left; (next => first | (simp; done) | (simp; omega) | omega)))) hb); clear hb))
  have hF : Far 0 0 w14 w15 := Far.of_below s_0
  clear hkeep s_0 s_1 s_2 s_3 r_s0 r_s1
  have zs15 : w14.heap.size ≤ w15.heap.size := by have := hF.size; (try simp at this); omega
  replace c0_0 : w15.cell? ⟨w.heap.size, 0, none⟩ = some (.slice A0_0 x0.Nodes.length C0_0) := by rw [hF.cell (by first | (simp; done) | (simp; omega) | omega) (by omega)]; first | exact c0_0 | go_simp
  replace c1_0 : w15.cell? ⟨w.heap.size + 1, 0, none⟩ = some (.slice A1_0 x1.Roots.length C1_0) := by rw [hF.cell (by first | (simp; done) | (simp; omega) | omega) (by omega)]; first | exact c1_0 | go_simp
  replace c1_1 : w15.cell? ⟨w.heap.size + 1, 1, none⟩ = some (.slice A1_1 x1.Runs.length C1_1) := by rw [hF.cell (by first | (simp; done) | (simp; omega) | omega) (by omega)]; first | exact c1_1 | go_simp
  replace c2_0 : w15.cell? ⟨w4.heap.size, 0, none⟩ = some (.slice Ai0_0 x0.Nodes.length Ci0_0) := by rw [hF.cell (by first | (simp; done) | (simp; omega) | omega) (by omega)]; first | exact c2_0 | go_simp
  replace c3_0 : w15.cell? ⟨w5.heap.size, 0, none⟩ = some (.slice Ai1_0 x1.Roots.length Ci1_0) := by rw [hF.cell (by first | (simp; done) | (simp; omega) | omega) (by omega)]; first | exact c3_0 | go_simp
  replace c3_1 : w15.cell? ⟨w5.heap.size, 1, none⟩ = some (.slice Ai1_1 x1.Runs.length Ci1_1) := by rw [hF.cell (by first | (simp; done) | (simp; omega) | omega) (by omega)]; first | exact c3_1 | go_simp
  replace z0 : w.heap.size < w15.heap.size := by omega
  replace z1 : w.heap.size + 1 < w15.heap.size := by omega
  replace z2 : w4.heap.size < w15.heap.size := by omega
  replace z3 : w5.heap.size < w15.heap.size := by omega
  have HB_15 := Asd.mk (Far.trans3 (HB_14.out) hF (by omega))
  replace I_w0 := Asd.mk ((I_w0.out.below (Below.refl _ _)).far hF (by omega))
  replace I_m0 := Asd.mk ((I_m0.out.below (Below.refl _ _)).far hF (by omega))
  clear hF
  go_wp2_with fail
  refine (eqStringS_calls (g) (g) _ _ _ (reps_one (I_k0.out.reps.below (Below.refl _ _))) (reps_one (I_w0.out.reps.below (Below.refl _ _)))).mono ?_
  rintro e w16 ⟨rfl, hb⟩
  have hF := Far.of_below hb
  have zs16 : w15.heap.size ≤ w16.heap.size := by have := hF.size; (try simp at this); omega
  replace c0_0 : w16.cell? ⟨w.heap.size, 0, none⟩ = some (.slice A0_0 x0.Nodes.length C0_0) := by rw [hF.cell (by first | (simp; done) | (simp; omega) | omega) (by omega)]; first | exact c0_0 | go_simp
  replace c1_0 : w16.cell? ⟨w.heap.size + 1, 0, none⟩ = some (.slice A1_0 x1.Roots.length C1_0) := by rw [hF.cell (by first | (simp; done) | (simp; omega) | omega) (by omega)]; first | exact c1_0 | go_simp
  replace c1_1 : w16.cell? ⟨w.heap.size + 1, 1, none⟩ = some (.slice A1_1 x1.Runs.length C1_1) := by rw [hF.cell (by first | (simp; done) | (simp; omega) | omega) (by omega)]; first | exact c1_1 | go_simp
  replace c2_0 : w16.cell? ⟨w4.heap.size, 0, none⟩ = some (.slice Ai0_0 x0.Nodes.length Ci0_0) := by rw [hF.cell (by first | (simp; done) | (simp; omega) | omega) (by omega)]; first | exact c2_0 | go_simp
  replace c3_0 : w16.cell? ⟨w5.heap.size, 0, none⟩ = some (.slice Ai1_0 x1.Roots.length Ci1_0) := by rw [hF.cell (by first | (simp; done) | (simp; omega) | omega) (by omega)]; first | exact c3_0 | go_simp
  replace c3_1 : w16.cell? ⟨w5.heap.size, 1, none⟩ = some (.slice Ai1_1 x1.Runs.length Ci1_1) := by rw [hF.cell (by first | (simp; done) | (simp; omega) | omega) (by omega)]; first | exact c3_1 | go_simp
  replace z0 : w.heap.size < w16.heap.size := by omega
  replace z1 : w.heap.size + 1 < w16.heap.size := by omega
  replace z2 : w4.heap.size < w16.heap.size := by omega
  replace z3 : w5.heap.size < w16.heap.size := by omega
  have HB_16 := Asd.mk (Far.trans3 (HB_15.out) hF (by omega))
  replace I_w0 := Asd.mk ((I_w0.out.below (Below.refl _ _)).far hF (by omega))
  replace I_m0 := Asd.mk ((I_m0.out.below (Below.refl _ _)).far hF (by omega))
  replace I_k0 := Asd.mk ((I_k0.out.below (Below.refl _ _)).far hF (by omega))
  clear hF hb
  go_wp2_with fail
  refine (heldStringS_iv (g) _ _ (1) _ _ _ (by first | rfl | omega) (I_m0.out.below (Below.refl _ _)) (by omega) (by have := kg0.out; omega)).mono ?_
  rintro e w17 ⟨he, hb⟩
  have hF := Far.of_below hb
  rw [kg0.out] at he
  subst he
  have zs17 : w16.heap.size ≤ w17.heap.size := by have := hF.size; (try simp at this); omega
  replace c0_0 : w17.cell? ⟨w.heap.size, 0, none⟩ = some (.slice A0_0 x0.Nodes.length C0_0) := by rw [hF.cell (by first | (simp; done) | (simp; omega) | omega) (by omega)]; first | exact c0_0 | go_simp
  replace c1_0 : w17.cell? ⟨w.heap.size + 1, 0, none⟩ = some (.slice A1_0 x1.Roots.length C1_0) := by rw [hF.cell (by first | (simp; done) | (simp; omega) | omega) (by omega)]; first | exact c1_0 | go_simp
  replace c1_1 : w17.cell? ⟨w.heap.size + 1, 1, none⟩ = some (.slice A1_1 x1.Runs.length C1_1) := by rw [hF.cell (by first | (simp; done) | (simp; omega) | omega) (by omega)]; first | exact c1_1 | go_simp
  replace c2_0 : w17.cell? ⟨w4.heap.size, 0, none⟩ = some (.slice Ai0_0 x0.Nodes.length Ci0_0) := by rw [hF.cell (by first | (simp; done) | (simp; omega) | omega) (by omega)]; first | exact c2_0 | go_simp
  replace c3_0 : w17.cell? ⟨w5.heap.size, 0, none⟩ = some (.slice Ai1_0 x1.Roots.length Ci1_0) := by rw [hF.cell (by first | (simp; done) | (simp; omega) | omega) (by omega)]; first | exact c3_0 | go_simp
  replace c3_1 : w17.cell? ⟨w5.heap.size, 1, none⟩ = some (.slice Ai1_1 x1.Runs.length Ci1_1) := by rw [hF.cell (by first | (simp; done) | (simp; omega) | omega) (by omega)]; first | exact c3_1 | go_simp
  replace z0 : w.heap.size < w17.heap.size := by omega
  replace z1 : w.heap.size + 1 < w17.heap.size := by omega
  replace z2 : w4.heap.size < w17.heap.size := by omega
  replace z3 : w5.heap.size < w17.heap.size := by omega
  have HB_17 := Asd.mk (Far.trans3 (HB_16.out) hF (by omega))
  replace I_w0 := Asd.mk ((I_w0.out.below (Below.refl _ _)).far hF (by omega))
  replace I_m0 := Asd.mk ((I_m0.out.below (Below.refl _ _)).far hF (by omega))
  replace I_k0 := Asd.mk ((I_k0.out.below (Below.refl _ _)).far hF (by omega))
  clear hF hb
  go_wp2
  go_ret
  exact ⟨rfl, HB_17.out⟩
end Go.Proofs.YtkpkfihaihoaeaaGreatDoor.M
end
