/- The law of ValidAction, walked. -/
import Derived.Test.YtfefmblinceneaaToA
import Derived.Test.YtfefmblinceneaaEqA
import Derived.Test.YtfefmblinceneaaVac
import Derived.Test.YtfefmblinceneaaSst
import Derived.Deep.RegionWith
set_option linter.unusedVariables false
set_option linter.unusedSimpArgs false
namespace Go.Proofs.Ytfefmblinceneaa.M
open Go.RowKit

theorem Action.Zm.sm {x : Action} (h : x.Zm) : x.Sm := fun s hs => (h s hs).2.2
set_option maxRecDepth 100000 in
set_option maxHeartbeats 2000000 in
theorem FnExactValidAction_calls {tS tC : Nat} (x : Action) (w : World) {vs : List Value} (h : reps w (x.c tS tC) vs) (hz : x.Zm) :
    Calls Try.prog 4 #[.agg vs.toArray] w fun e w' => e = .returned (.bool true) ∧ Below w.heap.size w w' := by
  have hbox : ∀ o, Below w.heap.size w (w.alloc o) := fun o => (Below.refl _ _).alloc (Nat.le_refl _) o
  have hsm := Asd.mk hz.sm
  replace hz := Asd.mk hz
  have h' := Asd.mk h
  obtain ⟨v1, rfl, h1⟩ := Action.ropen h
  obtain ⟨A1, c1, rfl, _, _⟩ := rep_len h1
  clear h h1
  by_cases q : ((x.bk : Nat) : Int) ≤ 1048576
  rotate_left
  · have e2 : szI x.bk 1048576 = -1 := szI_no q
    go_enter Try.func4, Try.ntmps4
    go_wp2_with fail
    refine (szAction_calls x _ _ (h'.out.below (hbox _)) (by omega) (by omega) hz.out).mono ?_
    rintro e w1 ⟨rfl, hb1⟩
    go_wp2
    go_ret
    exact ⟨rfl, below_st (hbox _) hb1⟩
  have e2 : szI x.bk 1048576 = 1048576 - (x.bk : Nat) := szI_yes q
  go_enter Try.func4, Try.ntmps4
  go_wp2_with fail
  refine (szAction_calls x _ _ (h'.out.below (hbox _)) (by omega) (by omega) hz.out).mono ?_
  rintro e w1 ⟨rfl, hb1⟩
  obtain ⟨hcx, hfx⟩ := bcell hb1
  have hz0 : w.heap.size < w1.heap.size := by have := hb1.size; simp at this; omega
  have HB1 := Asd.mk (below_st (hbox _) hb1)
  clear hb1
  go_wp2_with fail
  refine (toAction_calls x _ (h'.out.below HB1.out) (by omega)).mono ?_
  rintro e w2 ⟨us, rfl, ⟨F2, o2, n2, l2⟩, hb2⟩
  obtain ⟨v2, G2, rfl, p2, rfl⟩ := Action.oopen o2
  obtain ⟨B2, b2, rfl, _, _⟩ := own_slice p2
  obtain ⟨hcx2, hfx2⟩ := bcell hb2
  have hz2 : w.heap.size < w2.heap.size := by have := hb2.size; omega
  have HB2 := Asd.mk (below_st HB1.out hb2)
  have r2 := Asd.mk o2.rep
  clear hb2 o2 p2 l2
  go_wp2_with fail
  refine (sValidAction_calls x _ r2.out hsm.out).mono ?_
  rintro e w3 ⟨rfl, hb3⟩
  obtain ⟨hcx3, hfx3⟩ := bcell hb3
  have hz3 : w.heap.size < w3.heap.size := by have := hb3.size; omega
  have HB3 := Asd.mk (below_st HB2.out hb3)
  clear hb3
  go_wp2_with fail
  refine (toAction_calls x _ (h'.out.below HB3.out) (by omega)).mono ?_
  rintro e w4 ⟨us, rfl, ⟨F4, o4, n4, l4⟩, hb4⟩
  obtain ⟨v4, G4, rfl, p4, rfl⟩ := Action.oopen o4
  obtain ⟨B4, b4, rfl, _, _⟩ := own_slice p4
  obtain ⟨hcx4, hfx4⟩ := bcell hb4
  have hz4 : w.heap.size < w4.heap.size := by have := hb4.size; omega
  have HB4 := Asd.mk (below_st HB3.out hb4)
  have r4 := Asd.mk o4.rep
  clear hb4 o4 p4 l4
  go_wp2_with fail
  refine (ValidAction_calls x _ (r4.out.below ((Below.refl _ _).alloc (Nat.le_refl _) _)) hsm.out).mono ?_
  rintro e w5 ⟨rfl, hb5⟩
  obtain ⟨hcx5, hfx5⟩ := bcell hb5
  have hz5 : w.heap.size < w5.heap.size := by have := hb5.size; simp at this; omega
  have hz6 : w4.heap.size < w5.heap.size := by have := hb5.size; simp at this; omega
  have HB5 := Asd.mk (below_st (HB4.out.alloc HB4.out.size _) hb5)
  have r5 := Asd.mk (r4.out.below (below_st ((Below.refl _ _).alloc (Nat.le_refl _) _) hb5))
  clear hb5
  have hq : (actionOk x != actionOk x) = false := by simp
  have hy : eqB x x = true := eqB_yes rfl
  have k0 : w5.cell? ⟨w.heap.size, 0, none⟩ = some (.int .i64 x.Cost) := by go_simp
  have k1 : w5.cell? ⟨w.heap.size, 1, none⟩ = some (.slice A1 x.Steps.length c1) := by go_simp
  have k2 : w5.cell? ⟨w4.heap.size, 0, none⟩ = some (.int .i64 x.Cost) := by go_simp
  have k3 : w5.cell? ⟨w4.heap.size, 1, none⟩ = some (.slice B4 x.Steps.length b4) := by go_simp
  have hkeep : ∀ W W', Below W.heap.size W W' → (Below w5.heap.size w5 W ∧ W.cell? ⟨w.heap.size, 0, none⟩ = some (.int .i64 x.Cost) ∧ W.cell? ⟨w.heap.size, 1, none⟩ = some (.slice A1 x.Steps.length c1) ∧ W.cell? ⟨w4.heap.size, 0, none⟩ = some (.int .i64 x.Cost) ∧ W.cell? ⟨w4.heap.size, 1, none⟩ = some (.slice B4 x.Steps.length b4)) → (Below w5.heap.size w5 W' ∧ W'.cell? ⟨w.heap.size, 0, none⟩ = some (.int .i64 x.Cost) ∧ W'.cell? ⟨w.heap.size, 1, none⟩ = some (.slice A1 x.Steps.length c1) ∧ W'.cell? ⟨w4.heap.size, 0, none⟩ = some (.int .i64 x.Cost) ∧ W'.cell? ⟨w4.heap.size, 1, none⟩ = some (.slice B4 x.Steps.length b4)) := by
    rintro W W' hb ⟨q2, q3, q4, q5, q6⟩
    exact ⟨below_st q2 hb, cell_below hb q3, cell_below hb q4, cell_below hb q5, cell_below hb q6⟩
  replace hkeep := Asd.mk hkeep
  clear hcx hfx hcx2 hfx2 hcx3 hfx3 hcx4 hfx4 hcx5 hfx5
  have hbs : Below w5.heap.size w5 w5.drew := (Below.refl _ _).drew
  go_wp2
  go_region_held3 (fun W => Below w5.heap.size w5 W ∧ W.cell? ⟨w.heap.size, 0, none⟩ = some (.int .i64 x.Cost) ∧ W.cell? ⟨w.heap.size, 1, none⟩ = some (.slice A1 x.Steps.length c1) ∧ W.cell? ⟨w4.heap.size, 0, none⟩ = some (.int .i64 x.Cost) ∧ W.cell? ⟨w4.heap.size, 1, none⟩ = some (.slice B4 x.Steps.length b4)) (go_keep)
    (first | (go_at_call 9; refine (toAction_calls x _ (h'.out.below (below_st HB5.out (by assumption))) (by omega)).mono ?_; rintro e w6 ⟨us, rfl, ⟨F6, o6, n6, l6⟩, hb6⟩; obtain ⟨v6, G6, rfl, p6, rfl⟩ := Action.oopen o6; obtain ⟨B6, b6, rfl, _, _⟩ := own_slice p6; have r6 := Asd.mk o6.rep; obtain ⟨s2, s3, s4, s5, s6⟩ := hkeep.out _ _ hb6 ⟨by assumption, by first | assumption | exact k0, by first | assumption | exact k1, by first | assumption | exact k2, by first | assumption | exact k3⟩; clear hb6 o6 p6 l6) | (go_at_call 11; refine (eqAction_calls x x _ (r5.out.below (by assumption)) r6.out).mono ?_; rintro e w7 ⟨rfl, hb7⟩; obtain ⟨s2, s3, s4, s5, s6⟩ := hkeep.out _ _ hb7 ⟨by assumption, by first | assumption | exact k0, by first | assumption | exact k1, by first | assumption | exact k2, by first | assumption | exact k3⟩; clear hb7))
  go_wp2
  go_ret
  exact ⟨rfl, below_st HB5.out (by assumption)⟩

end Go.Proofs.Ytfefmblinceneaa.M
