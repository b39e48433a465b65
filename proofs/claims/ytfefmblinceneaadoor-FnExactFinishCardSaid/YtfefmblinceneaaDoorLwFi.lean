/- The law of Finish, walked. -/
import Derived.Test.YtfefmblinceneaaDoorToS
import Derived.Test.YtfefmblinceneaaDoorEqS
import Derived.Test.YtfefmblinceneaaDoorFin
import Derived.Test.YtfefmblinceneaaDoorFis
import Derived.Deep.RegionWith
set_option linter.unusedVariables false
set_option linter.unusedSimpArgs false
namespace Go.Proofs.YtfefmblinceneaaDoor.M
open Go.RowKit

set_option maxRecDepth 100000 in
set_option maxHeartbeats 4000000 in
theorem FnExactFinish_calls {ts1 : Nat} (x0 : ByteArray) (x1 : List ByteArray) (w : World) (hz0 : x0.size ≤ 9223372036854775807) {v1 : Value} (h1 : rep w (strsT ts1 x1) v1) (hz1 : SmS x1) (hg : 3 < w.heap.size) (ht : w.cell? ⟨3, 15, none⟩ = some (.int .u8 4)) :
    Calls Tryd.prog 3 #[.string x0, v1] w fun e w' => e = .returned (.bool true) ∧ Below w.heap.size w w' := by
  replace hz0 := Asd.mk hz0
  obtain ⟨A1, C1, rfl, _, _⟩ := rep_len h1
  replace h1 := Asd.mk h1
  have H1 := h1
  clear h1
  replace hz1 := Asd.mk hz1
  by_cases qs0 : ((x0.size : Nat) : Int) ≤ 1048576
  rotate_left
  · replace qs0 : (1048576 : Int) < (x0.size : Nat) := by omega
    have hs0 := hz0.out
    go_enter Tryd.func3, Tryd.ntmps3
    go_wp2
    go_ret
    exact ⟨rfl, Below.refl _ _⟩
  have hs0 := hz0.out
  have qn0 : ¬(1048576 : Int) < (x0.size : Nat) := by omega
  by_cases q1 : ((bkS x1 : Nat) : Int) ≤ 1048576
  rotate_left
  · have e1 : szI (bkS x1) (1048576) = -1 := szI_no q1
    go_enter Tryd.func3, Tryd.ntmps3
    go_wp2_with fail
    refine (szStringS_calls x1 _ _ _ (H1.out.below (Below.refl _ _)) (by omega) (by omega) hz1.out).mono ?_
    rintro e w1 ⟨rfl, hb⟩
    have HB1 := Asd.mk (below_st (Below.refl _ _) hb)
    clear hb
    go_wp2
    go_ret
    exact ⟨rfl, HB1.out⟩
  have e1 : szI (bkS x1) (1048576) = 1048576 - (bkS x1 : Nat) := szI_yes q1
  obtain ⟨f, gx⟩ : ∃ f, finish x0 x1 = f := ⟨_, rfl⟩
  go_enter Tryd.func3, Tryd.ntmps3
  go_wp2_with fail
  refine (szStringS_calls x1 _ _ _ (H1.out.below (Below.refl _ _)) (by omega) (by omega) hz1.out).mono ?_
  rintro e w1 ⟨rfl, hb⟩
  have HB1 := Asd.mk (below_st (Below.refl _ _) hb)
  clear hb
  go_wp2_with fail
  refine (toStringS_calls x1 _ _ (H1.out.below (HB1.out)) (by have hq_ := q1; unfold bkS bsOf at hq_; omega)).mono ?_
  rintro e w2 ⟨v_, rfl, ⟨F_, o_, n_, l_⟩, hb⟩
  obtain ⟨As1, Cs1, rfl, _, _⟩ := own_slice o_
  have rs1 := Asd.mk o_.rep
  clear o_ l_ n_
  have HB2 := Asd.mk (below_st (HB1.out) hb)
  clear hb
  go_wp2_with fail
  refine (sFinish_calls x0 x1 _ _ (rs1.out) hz0.out hz1.out).mono ?_
  rintro e w3 ⟨rfl, hb⟩
  rw [gx]
  have HB3 := Asd.mk (below_st (HB2.out) hb)
  replace rs1 := Asd.mk (rs1.out.below (below_st (Below.refl _ _) hb))
  clear hb
  go_wp2_with fail
  refine (toStringS_calls x1 _ _ (H1.out.below (HB3.out)) (by have hq_ := q1; unfold bkS bsOf at hq_; omega)).mono ?_
  rintro e w4 ⟨v_, rfl, ⟨F_, o_, n_, l_⟩, hb⟩
  obtain ⟨Ai1, Ci1, rfl, _, _⟩ := own_slice o_
  have ri1 := Asd.mk o_.rep
  clear o_ l_ n_
  have HB4 := Asd.mk (below_st (HB3.out) hb)
  clear hb
  go_wp2_with fail
  refine (Finish_calls x0 x1 _ _ (ri1.out) hz0.out hz1.out (Nat.lt_of_lt_of_le hg (HB4.out).size) (cell_below (HB4.out) ht)).mono ?_
  rintro e w5 ⟨rfl, hb⟩
  rw [gx]
  have HB5 := Asd.mk (below_st (HB4.out) hb)
  replace ri1 := Asd.mk (ri1.out.below (below_st (Below.refl _ _) hb))
  clear hb
  have y_0 : eqB (f) (f) = true := eqB_yes rfl
  have yx_1 : eqB x1 x1 = true := eqB_yes rfl
  go_wp2_with fail
  refine (toStringS_calls x1 _ _ (H1.out.below (HB5.out)) (by have hq_ := q1; unfold bkS bsOf at hq_; omega)).mono ?_
  rintro e w6 ⟨v_, rfl, ⟨F_, o_, n_, l_⟩, hb⟩
  obtain ⟨Ae1, Ce1, rfl, _, _⟩ := own_slice o_
  have re1 := Asd.mk o_.rep
  clear o_ l_ n_
  have HB6 := Asd.mk (below_st (HB5.out) hb)
  replace ri1 := Asd.mk (ri1.out.below (below_st (Below.refl _ _) hb))
  clear hb
  go_wp2_with fail
  refine (eqStringS_calls x1 x1 _ _ _ ri1.out re1.out).mono ?_
  rintro e w7 ⟨rfl, hb⟩
  have HB7 := Asd.mk (below_st (HB6.out) hb)
  replace ri1 := Asd.mk (ri1.out.below (below_st (Below.refl _ _) hb))
  replace re1 := Asd.mk (re1.out.below (below_st (Below.refl _ _) hb))
  clear hb
  go_wp2
  go_ret
  exact ⟨rfl, HB7.out⟩
end Go.Proofs.YtfefmblinceneaaDoor.M
