/- Texts put together: Contracts: the laws' own equalities. Contracts: the laws' own marks. What is handed back only to be read; marks of lists of strings between two bounds. Plain functions: GoOn. Plain functions: runs of a web, who is wanted. Plain functions: a run put in its place, as the reference does. Maps keyed by strings, as lists of pairs: look-up, store, delete, range. append of one text, of texts; a range over a map, step by step. A row that is appended to while what it holds reads elsewhere. Contracts: the laws' own types. The engine in memory: a web, roots, and runs behind pointers in a map. Contracts: sort.Strings on a list of the call's own. Contracts: the engine wants a name. Contracts: the engine begins. Contracts: the engine's names. Contracts: the engine's state, handed out. Contracts: the reference puts a run in its place. Contracts: the reference's known runs: find. Contracts: the reference wants names. Contracts: roots. -/
import Derived.Test.YtmjfkjdfmpileaaEqS
import Derived.StillTailTactics
import Derived.Test.YtmjfkjdfmpileaaMkS
import Derived.Test.YtmjfkjdfmpileaaIv
import Derived.Deep.RegionHeld3
import Derived.Test.YtmjfkjdfmpileaaPure
import Derived.Test.YtmjfkjdfmpileaaPuN
import Derived.Test.YtmjfkjdfmpileaaMem
import Derived.Maps.RangeWalk
import Derived.Test.YtmjfkjdfmpileaaAcc
import Derived.Test.YtmjfkjdfmpileaaInfS
import Derived.Test.YtmjfkjdfmpileaaRwa
import Derived.Test.YtmjfkjdfmpileaaMrk
import Derived.Test.YtmjfkjdfmpileaaShelf
import Derived.Sort.OwnSorted
import Derived.Test.YtmjfkjdfmpileaaFnd
import Derived.Test.YtmjfkjdfmpileaaCln
import Derived.Test.YtmjfkjdfmpileaaSdn
import Derived.Test.YtmjfkjdfmpileaaReg
import Derived.Test.YtmjfkjdfmpileaaSdr
import Derived.Test.YtmjfkjdfmpileaaAct
import Derived.Test.YtmjfkjdfmpileaaSnm
section
set_option linter.unusedVariables false
set_option linter.unusedSimpArgs false
namespace Go.Proofs.Ytmjfkjdfmpileaa.M
open Go.RowKit

set_option maxRecDepth 100000 in
set_option maxHeartbeats 2000000 in
theorem eqRun_calls (x y : Run) (w : World) {vs us : List Value} (h : reps w (x.c) vs) (h' : reps w (y.c) us) :
    Calls Try.prog 96 #[.agg vs.toArray, .agg us.toArray] w fun e w' => e = .returned (.bool (eqB x y)) ∧ Below w.heap.size w w' := by
  obtain ⟨v6, rfl, h6⟩ := Run.ropen h
  obtain ⟨u6, rfl, g6⟩ := Run.ropen h'
  obtain ⟨A6, c6, rfl, _, _⟩ := rep_len h6
  replace h6 := Asd.mk h6
  obtain ⟨B6, b6, rfl, _, _⟩ := rep_len g6
  replace g6 := Asd.mk g6
  clear h h'
  have r_Name := eqB_str x.Name y.Name
  have s_Name := eqB_str2 x.Name y.Name
  have r_Over := eqB_bool x.Over y.Over
  have s_Over := eqB_bool2 x.Over y.Over
  have r_Fail := eqB_bool x.Fail y.Fail
  have s_Fail := eqB_bool2 x.Fail y.Fail
  have r_Text := eqB_str x.Text y.Text
  have s_Text := eqB_str2 x.Text y.Text
  have r_At := eqB_int x.At y.At
  have r_Visits := eqB_int x.Visits y.Visits
  rcases Bool.eq_false_or_eq_true (eqB x.Name y.Name) with q_Name | q_Name
  rotate_left
  · have e1 := Hid.mk' (eqB_no (fun e => eqB_ne q_Name (congrArg Run.Name e)) : eqB x y = false)
    go_enter Try.func96, Try.ntmps96
    go_wp2_with (first | (go_at_call 28; refine (eqStringS_calls x.Texts y.Texts _ _ _ (h6.out.below (by first | exact ((Below.refl _ _).alloc (Nat.le_refl _) _).alloc (by simp) _ | exact HB.out)) (g6.out.below (by first | exact ((Below.refl _ _).alloc (Nat.le_refl _) _).alloc (by simp) _ | exact HB.out))).mono ?_; rintro e w1 ⟨rfl, hb1⟩; obtain ⟨hcx, hfx⟩ := bcell hb1; have hz1 : w.heap.size + 1 < w1.heap.size := (by have := hb1.size; (try simp at this); omega); have hz0 : w.heap.size < w1.heap.size := (by omega); have HB := Asd.mk (show Below w.heap.size w w1 from by first | exact below_st (((Below.refl _ _).alloc (Nat.le_refl _) _).alloc (by simp) _) hb1 | exact below_st HB.out hb1); clear hb1))
    go_ret
    exact ⟨by rw [e1.out]; rfl, by first | exact ((Below.refl _ _).alloc (Nat.le_refl _) _).alloc (by simp) _ | exact HB.out⟩
  rcases Bool.eq_false_or_eq_true (eqB x.Over y.Over) with q_Over | q_Over
  rotate_left
  · have e1 := Hid.mk' (eqB_no (fun e => eqB_ne q_Over (congrArg Run.Over e)) : eqB x y = false)
    go_enter Try.func96, Try.ntmps96
    go_wp2_with (first | (go_at_call 28; refine (eqStringS_calls x.Texts y.Texts _ _ _ (h6.out.below (by first | exact ((Below.refl _ _).alloc (Nat.le_refl _) _).alloc (by simp) _ | exact HB.out)) (g6.out.below (by first | exact ((Below.refl _ _).alloc (Nat.le_refl _) _).alloc (by simp) _ | exact HB.out))).mono ?_; rintro e w1 ⟨rfl, hb1⟩; obtain ⟨hcx, hfx⟩ := bcell hb1; have hz1 : w.heap.size + 1 < w1.heap.size := (by have := hb1.size; (try simp at this); omega); have hz0 : w.heap.size < w1.heap.size := (by omega); have HB := Asd.mk (show Below w.heap.size w w1 from by first | exact below_st (((Below.refl _ _).alloc (Nat.le_refl _) _).alloc (by simp) _) hb1 | exact below_st HB.out hb1); clear hb1))
    go_ret
    exact ⟨by rw [e1.out]; rfl, by first | exact ((Below.refl _ _).alloc (Nat.le_refl _) _).alloc (by simp) _ | exact HB.out⟩
  rcases Bool.eq_false_or_eq_true (eqB x.Fail y.Fail) with q_Fail | q_Fail
  rotate_left
  · have e1 := Hid.mk' (eqB_no (fun e => eqB_ne q_Fail (congrArg Run.Fail e)) : eqB x y = false)
    go_enter Try.func96, Try.ntmps96
    go_wp2_with (first | (go_at_call 28; refine (eqStringS_calls x.Texts y.Texts _ _ _ (h6.out.below (by first | exact ((Below.refl _ _).alloc (Nat.le_refl _) _).alloc (by simp) _ | exact HB.out)) (g6.out.below (by first | exact ((Below.refl _ _).alloc (Nat.le_refl _) _).alloc (by simp) _ | exact HB.out))).mono ?_; rintro e w1 ⟨rfl, hb1⟩; obtain ⟨hcx, hfx⟩ := bcell hb1; have hz1 : w.heap.size + 1 < w1.heap.size := (by have := hb1.size; (try simp at this); omega); have hz0 : w.heap.size < w1.heap.size := (by omega); have HB := Asd.mk (show Below w.heap.size w w1 from by first | exact below_st (((Below.refl _ _).alloc (Nat.le_refl _) _).alloc (by simp) _) hb1 | exact below_st HB.out hb1); clear hb1))
    go_ret
    exact ⟨by rw [e1.out]; rfl, by first | exact ((Below.refl _ _).alloc (Nat.le_refl _) _).alloc (by simp) _ | exact HB.out⟩
  rcases Bool.eq_false_or_eq_true (eqB x.Text y.Text) with q_Text | q_Text
  rotate_left
  · have e1 := Hid.mk' (eqB_no (fun e => eqB_ne q_Text (congrArg Run.Text e)) : eqB x y = false)
    go_enter Try.func96, Try.ntmps96
    go_wp2_with (first | (go_at_call 28; refine (eqStringS_calls x.Texts y.Texts _ _ _ (h6.out.below (by first | exact ((Below.refl _ _).alloc (Nat.le_refl _) _).alloc (by simp) _ | exact HB.out)) (g6.out.below (by first | exact ((Below.refl _ _).alloc (Nat.le_refl _) _).alloc (by simp) _ | exact HB.out))).mono ?_; rintro e w1 ⟨rfl, hb1⟩; obtain ⟨hcx, hfx⟩ := bcell hb1; have hz1 : w.heap.size + 1 < w1.heap.size := (by have := hb1.size; (try simp at this); omega); have hz0 : w.heap.size < w1.heap.size := (by omega); have HB := Asd.mk (show Below w.heap.size w w1 from by first | exact below_st (((Below.refl _ _).alloc (Nat.le_refl _) _).alloc (by simp) _) hb1 | exact below_st HB.out hb1); clear hb1))
    go_ret
    exact ⟨by rw [e1.out]; rfl, by first | exact ((Below.refl _ _).alloc (Nat.le_refl _) _).alloc (by simp) _ | exact HB.out⟩
  rcases Bool.eq_false_or_eq_true (eqB x.At y.At) with q_At | q_At
  rotate_left
  · have e1 := Hid.mk' (eqB_no (fun e => eqB_ne q_At (congrArg Run.At e)) : eqB x y = false)
    go_enter Try.func96, Try.ntmps96
    go_wp2_with (first | (go_at_call 28; refine (eqStringS_calls x.Texts y.Texts _ _ _ (h6.out.below (by first | exact ((Below.refl _ _).alloc (Nat.le_refl _) _).alloc (by simp) _ | exact HB.out)) (g6.out.below (by first | exact ((Below.refl _ _).alloc (Nat.le_refl _) _).alloc (by simp) _ | exact HB.out))).mono ?_; rintro e w1 ⟨rfl, hb1⟩; obtain ⟨hcx, hfx⟩ := bcell hb1; have hz1 : w.heap.size + 1 < w1.heap.size := (by have := hb1.size; (try simp at this); omega); have hz0 : w.heap.size < w1.heap.size := (by omega); have HB := Asd.mk (show Below w.heap.size w w1 from by first | exact below_st (((Below.refl _ _).alloc (Nat.le_refl _) _).alloc (by simp) _) hb1 | exact below_st HB.out hb1); clear hb1))
    go_ret
    exact ⟨by rw [e1.out]; rfl, by first | exact ((Below.refl _ _).alloc (Nat.le_refl _) _).alloc (by simp) _ | exact HB.out⟩
  rcases Bool.eq_false_or_eq_true (eqB x.Visits y.Visits) with q_Visits | q_Visits
  rotate_left
  · have e1 := Hid.mk' (eqB_no (fun e => eqB_ne q_Visits (congrArg Run.Visits e)) : eqB x y = false)
    go_enter Try.func96, Try.ntmps96
    go_wp2_with (first | (go_at_call 28; refine (eqStringS_calls x.Texts y.Texts _ _ _ (h6.out.below (by first | exact ((Below.refl _ _).alloc (Nat.le_refl _) _).alloc (by simp) _ | exact HB.out)) (g6.out.below (by first | exact ((Below.refl _ _).alloc (Nat.le_refl _) _).alloc (by simp) _ | exact HB.out))).mono ?_; rintro e w1 ⟨rfl, hb1⟩; obtain ⟨hcx, hfx⟩ := bcell hb1; have hz1 : w.heap.size + 1 < w1.heap.size := (by have := hb1.size; (try simp at this); omega); have hz0 : w.heap.size < w1.heap.size := (by omega); have HB := Asd.mk (show Below w.heap.size w w1 from by first | exact below_st (((Below.refl _ _).alloc (Nat.le_refl _) _).alloc (by simp) _) hb1 | exact below_st HB.out hb1); clear hb1))
    go_ret
    exact ⟨by rw [e1.out]; rfl, by first | exact ((Below.refl _ _).alloc (Nat.le_refl _) _).alloc (by simp) _ | exact HB.out⟩
  rcases Bool.eq_false_or_eq_true (eqB x.Texts y.Texts) with q_Texts | q_Texts
  rotate_left
  · have e1 := Hid.mk' (eqB_no (fun e => eqB_ne q_Texts (congrArg Run.Texts e)) : eqB x y = false)
    go_enter Try.func96, Try.ntmps96
    go_wp2_with (first | (go_at_call 28; refine (eqStringS_calls x.Texts y.Texts _ _ _ (h6.out.below (by first | exact ((Below.refl _ _).alloc (Nat.le_refl _) _).alloc (by simp) _ | exact HB.out)) (g6.out.below (by first | exact ((Below.refl _ _).alloc (Nat.le_refl _) _).alloc (by simp) _ | exact HB.out))).mono ?_; rintro e w1 ⟨rfl, hb1⟩; obtain ⟨hcx, hfx⟩ := bcell hb1; have hz1 : w.heap.size + 1 < w1.heap.size := (by have := hb1.size; (try simp at this); omega); have hz0 : w.heap.size < w1.heap.size := (by omega); have HB := Asd.mk (show Below w.heap.size w w1 from by first | exact below_st (((Below.refl _ _).alloc (Nat.le_refl _) _).alloc (by simp) _) hb1 | exact below_st HB.out hb1); clear hb1))
    go_ret
    exact ⟨by rw [e1.out]; rfl, by first | exact ((Below.refl _ _).alloc (Nat.le_refl _) _).alloc (by simp) _ | exact HB.out⟩
  have e1 := Hid.mk' (eqB_yes (show x = y by cases x; cases y; simp only [Run.mk.injEq]; exact ⟨eqB_of q_Name, eqB_of q_Over, eqB_of q_Fail, eqB_of q_Text, eqB_of q_At, eqB_of q_Visits, eqB_of q_Texts⟩) : eqB x y = true)
  go_enter Try.func96, Try.ntmps96
  go_wp2_with (first | (go_at_call 28; refine (eqStringS_calls x.Texts y.Texts _ _ _ (h6.out.below (by first | exact ((Below.refl _ _).alloc (Nat.le_refl _) _).alloc (by simp) _ | exact HB.out)) (g6.out.below (by first | exact ((Below.refl _ _).alloc (Nat.le_refl _) _).alloc (by simp) _ | exact HB.out))).mono ?_; rintro e w1 ⟨rfl, hb1⟩; obtain ⟨hcx, hfx⟩ := bcell hb1; have hz1 : w.heap.size + 1 < w1.heap.size := (by have := hb1.size; (try simp at this); omega); have hz0 : w.heap.size < w1.heap.size := (by omega); have HB := Asd.mk (show Below w.heap.size w w1 from by first | exact below_st (((Below.refl _ _).alloc (Nat.le_refl _) _).alloc (by simp) _) hb1 | exact below_st HB.out hb1); clear hb1))
  go_ret
  exact ⟨by rw [e1.out]; rfl, by first | exact ((Below.refl _ _).alloc (Nat.le_refl _) _).alloc (by simp) _ | exact HB.out⟩
set_option maxRecDepth 100000 in
set_option maxHeartbeats 2000000 in
theorem eqRunS_calls {tRun tRun' : Nat} (xs ys : List Run) (v u : Value) (w : World) (h : rep w (RunsT tRun xs) v) (h' : rep w (RunsT tRun' ys) u) :
    Calls Try.prog 65 #[v, u] w fun e w' => e = .returned (.bool (eqB xs ys)) ∧ Below w.heap.size w w' := by
  obtain ⟨A, c, rfl, hc, hn⟩ := rep_len h
  obtain ⟨A', c', rfl, hc', hn'⟩ := rep_len h'
  replace h := Asd.mk h
  replace h' := Asd.mk h'
  by_cases hl : xs.length = ys.length
  rotate_left
  · have e1 := Hid.mk' (eqB_no (fun e => hl (congrArg List.length e)) : eqB xs ys = false)
    have hb : ((xs.length : Int) != (ys.length : Int)) = true := by simp; omega
    replace hl := Hid.mk' hl
    go_enter Try.func65, Try.ntmps65
    go_wp2
    go_ret
    exact ⟨by rw [e1.out]; rfl, Below.refl _ _⟩
  have hb : ((xs.length : Int) != (ys.length : Int)) = false := by simp; omega
  replace hl := Hid.mk' hl
  go_enter Try.func65, Try.ntmps65
  go_wp2
  go_loopw [5] (fun i wr => ∃ k : Nat, k ≤ xs.length ∧ i = .int .i64 k ∧ eqTo xs ys k ∧ Below w.heap.size w wr) (fun i _ => xs.length - (intOf i).toNat)
  case atStart => exact ⟨0, by omega, rfl, eqTo_zero _ _, Below.refl _ _⟩
  case round =>
    obtain ⟨k, hk, rfl, hA, hbr⟩ := hrel
    by_cases hlt : k < xs.length
    · have hlt' : k < ys.length := by have := hl.out; omega
      obtain ⟨a, c', v6, he, k0, k1, k2, k3, k4, k5, k6, h6, hr⟩ := Run.elem (h.out.below hbr) hlt
      cases he
      obtain ⟨B6, b6, rfl, _, _⟩ := rep_len h6
      clear h6
      replace hr := Asd.mk hr
      obtain ⟨a, d', u6, he, m0, m1, m2, m3, m4, m5, m6, g6, gr⟩ := Run.elem (h'.out.below hbr) hlt'
      cases he
      obtain ⟨C6, d6, rfl, _, _⟩ := rep_len g6
      clear g6
      replace gr := Asd.mk gr
      cases hq : eqB xs[k] ys[k] with
      | true =>
        have e1 := eqTo_succ hA hlt hlt' (eqB_of hq)
        go_wp2
        go_still_tail 8, (by kernel_rfl)
        change wpList _ _ _ _ _ wr.drew
        go_wp2_with (first | (go_at_call 96; refine (eqRun_calls xs[k] ys[k] _ (hr.out.below (by exact Below.drew (Below.refl _ _))) (gr.out.below (by exact Below.drew (Below.refl _ _)))).mono ?_; rintro e w1 ⟨rfl, hb1⟩))
        go_roundw
        case rel => exact ⟨k + 1, by omega, by go_num, e1, below_st hbr.drew hb1⟩
        case measure => simp [intOf]; omega
      | false =>
        have e1 := Hid.mk' (eqB_no (ne_at hlt hlt' (eqB_ne hq)) : eqB xs ys = false)
        go_wp2
        go_still_tail 8, (by kernel_rfl)
        change wpList _ _ _ _ _ wr.drew
        go_wp2_with (first | (go_at_call 96; refine (eqRun_calls xs[k] ys[k] _ (hr.out.below (by exact Below.drew (Below.refl _ _))) (gr.out.below (by exact Below.drew (Below.refl _ _)))).mono ?_; rintro e w1 ⟨rfl, hb1⟩))
        go_ret
        exact ⟨by rw [e1.out]; rfl, below_st hbr.drew hb1⟩
    · obtain rfl : k = xs.length := by omega
      have e1 := Hid.mk' (eqB_yes (eqTo_end hl.out hA))
      go_wp2
      go_ret
      exact ⟨by rw [e1.out]; rfl, hbr⟩
set_option maxRecDepth 100000 in
set_option maxHeartbeats 2000000 in
theorem eqState_calls {tRun tRun' : Nat} (x y : State) (w : World) {vs us : List Value} (h : reps w (x.c tRun) vs) (h' : reps w (y.c tRun') us) :
    Calls Try.prog 27 #[.agg vs.toArray, .agg us.toArray] w fun e w' => e = .returned (.bool (eqB x y)) ∧ Below w.heap.size w w' := by
  obtain ⟨v0, v1, rfl, h0, h1⟩ := State.ropen h
  obtain ⟨u0, u1, rfl, g0, g1⟩ := State.ropen h'
  obtain ⟨A0, c0, rfl, _, _⟩ := rep_len h0
  replace h0 := Asd.mk h0
  obtain ⟨B0, b0, rfl, _, _⟩ := rep_len g0
  replace g0 := Asd.mk g0
  obtain ⟨A1, c1, rfl, _, _⟩ := rep_len h1
  replace h1 := Asd.mk h1
  obtain ⟨B1, b1, rfl, _, _⟩ := rep_len g1
  replace g1 := Asd.mk g1
  clear h h'
  rcases Bool.eq_false_or_eq_true (eqB x.Roots y.Roots) with q_Roots | q_Roots
  rotate_left
  · have e1 := Hid.mk' (eqB_no (fun e => eqB_ne q_Roots (congrArg State.Roots e)) : eqB x y = false)
    go_enter Try.func27, Try.ntmps27
    go_wp2_with (first | (go_at_call 28; refine (eqStringS_calls x.Roots y.Roots _ _ _ (h0.out.below (by first | exact ((Below.refl _ _).alloc (Nat.le_refl _) _).alloc (by simp) _ | exact HB.out)) (g0.out.below (by first | exact ((Below.refl _ _).alloc (Nat.le_refl _) _).alloc (by simp) _ | exact HB.out))).mono ?_; rintro e w1 ⟨rfl, hb1⟩; obtain ⟨hcx, hfx⟩ := bcell hb1; have hz1 : w.heap.size + 1 < w1.heap.size := (by have := hb1.size; (try simp at this); omega); have hz0 : w.heap.size < w1.heap.size := (by omega); have HB := Asd.mk (show Below w.heap.size w w1 from by first | exact below_st (((Below.refl _ _).alloc (Nat.le_refl _) _).alloc (by simp) _) hb1 | exact below_st HB.out hb1); clear hb1) | (go_at_call 65; refine (eqRunS_calls x.Runs y.Runs _ _ _ (h1.out.below (by first | exact ((Below.refl _ _).alloc (Nat.le_refl _) _).alloc (by simp) _ | exact HB.out)) (g1.out.below (by first | exact ((Below.refl _ _).alloc (Nat.le_refl _) _).alloc (by simp) _ | exact HB.out))).mono ?_; rintro e w1 ⟨rfl, hb1⟩; obtain ⟨hcx, hfx⟩ := bcell hb1; have hz1 : w.heap.size + 1 < w1.heap.size := (by have := hb1.size; (try simp at this); omega); have hz0 : w.heap.size < w1.heap.size := (by omega); have HB := Asd.mk (show Below w.heap.size w w1 from by first | exact below_st (((Below.refl _ _).alloc (Nat.le_refl _) _).alloc (by simp) _) hb1 | exact below_st HB.out hb1); clear hb1))
    go_ret
    exact ⟨by rw [e1.out]; rfl, by first | exact ((Below.refl _ _).alloc (Nat.le_refl _) _).alloc (by simp) _ | exact HB.out⟩
  rcases Bool.eq_false_or_eq_true (eqB x.Runs y.Runs) with q_Runs | q_Runs
  rotate_left
  · have e1 := Hid.mk' (eqB_no (fun e => eqB_ne q_Runs (congrArg State.Runs e)) : eqB x y = false)
    go_enter Try.func27, Try.ntmps27
    go_wp2_with (first | (go_at_call 28; refine (eqStringS_calls x.Roots y.Roots _ _ _ (h0.out.below (by first | exact ((Below.refl _ _).alloc (Nat.le_refl _) _).alloc (by simp) _ | exact HB.out)) (g0.out.below (by first | exact ((Below.refl _ _).alloc (Nat.le_refl _) _).alloc (by simp) _ | exact HB.out))).mono ?_; rintro e w1 ⟨rfl, hb1⟩; obtain ⟨hcx, hfx⟩ := bcell hb1; have hz1 : w.heap.size + 1 < w1.heap.size := (by have := hb1.size; (try simp at this); omega); have hz0 : w.heap.size < w1.heap.size := (by omega); have HB := Asd.mk (show Below w.heap.size w w1 from by first | exact below_st (((Below.refl _ _).alloc (Nat.le_refl _) _).alloc (by simp) _) hb1 | exact below_st HB.out hb1); clear hb1) | (go_at_call 65; refine (eqRunS_calls x.Runs y.Runs _ _ _ (h1.out.below (by first | exact ((Below.refl _ _).alloc (Nat.le_refl _) _).alloc (by simp) _ | exact HB.out)) (g1.out.below (by first | exact ((Below.refl _ _).alloc (Nat.le_refl _) _).alloc (by simp) _ | exact HB.out))).mono ?_; rintro e w1 ⟨rfl, hb1⟩; obtain ⟨hcx, hfx⟩ := bcell hb1; have hz1 : w.heap.size + 1 < w1.heap.size := (by have := hb1.size; (try simp at this); omega); have hz0 : w.heap.size < w1.heap.size := (by omega); have HB := Asd.mk (show Below w.heap.size w w1 from by first | exact below_st (((Below.refl _ _).alloc (Nat.le_refl _) _).alloc (by simp) _) hb1 | exact below_st HB.out hb1); clear hb1))
    go_ret
    exact ⟨by rw [e1.out]; rfl, by first | exact ((Below.refl _ _).alloc (Nat.le_refl _) _).alloc (by simp) _ | exact HB.out⟩
  have e1 := Hid.mk' (eqB_yes (show x = y by cases x; cases y; simp only [State.mk.injEq]; exact ⟨eqB_of q_Roots, eqB_of q_Runs⟩) : eqB x y = true)
  go_enter Try.func27, Try.ntmps27
  go_wp2_with (first | (go_at_call 28; refine (eqStringS_calls x.Roots y.Roots _ _ _ (h0.out.below (by first | exact ((Below.refl _ _).alloc (Nat.le_refl _) _).alloc (by simp) _ | exact HB.out)) (g0.out.below (by first | exact ((Below.refl _ _).alloc (Nat.le_refl _) _).alloc (by simp) _ | exact HB.out))).mono ?_; rintro e w1 ⟨rfl, hb1⟩; obtain ⟨hcx, hfx⟩ := bcell hb1; have hz1 : w.heap.size + 1 < w1.heap.size := (by have := hb1.size; (try simp at this); omega); have hz0 : w.heap.size < w1.heap.size := (by omega); have HB := Asd.mk (show Below w.heap.size w w1 from by first | exact below_st (((Below.refl _ _).alloc (Nat.le_refl _) _).alloc (by simp) _) hb1 | exact below_st HB.out hb1); clear hb1) | (go_at_call 65; refine (eqRunS_calls x.Runs y.Runs _ _ _ (h1.out.below (by first | exact ((Below.refl _ _).alloc (Nat.le_refl _) _).alloc (by simp) _ | exact HB.out)) (g1.out.below (by first | exact ((Below.refl _ _).alloc (Nat.le_refl _) _).alloc (by simp) _ | exact HB.out))).mono ?_; rintro e w1 ⟨rfl, hb1⟩; obtain ⟨hcx, hfx⟩ := bcell hb1; have hz1 : w.heap.size + 1 < w1.heap.size := (by have := hb1.size; (try simp at this); omega); have hz0 : w.heap.size < w1.heap.size := (by omega); have HB := Asd.mk (show Below w.heap.size w w1 from by first | exact below_st (((Below.refl _ _).alloc (Nat.le_refl _) _).alloc (by simp) _) hb1 | exact below_st HB.out hb1); clear hb1))
  go_ret
  exact ⟨by rw [e1.out]; rfl, by first | exact ((Below.refl _ _).alloc (Nat.le_refl _) _).alloc (by simp) _ | exact HB.out⟩
end Go.Proofs.Ytmjfkjdfmpileaa.M
end
section
set_option linter.unusedVariables false
set_option linter.unusedSimpArgs false
namespace Go.Proofs.Ytmjfkjdfmpileaa.M
open Go.RowKit

set_option maxRecDepth 100000 in
set_option maxHeartbeats 4000000 in
theorem markRunS_calls (xs : List Run) (v : Value) (F : List Nat) (k : Nat) (n : Int) (w : World) (hn : n = k) (h : own w (RunsT 126 xs) v F) (hd : F.Nodup) (h0 : 1 ≤ k) (hk : k + cnt (RunsT 126 xs) ≤ 1000000000) :
    Calls Try.prog 67 #[v, .int .i64 n] w (MrkP (RunsT 126 xs) v F k w) := by
  subst hn
  obtain ⟨A, c, rfl, _, _⟩ := own_slice h
  have hk2 : k + cnts (xs.flatMap Run.c) ≤ 1000000000 := hk
  have hS := Asd.mk (MS.start (k := k) (cells := (xs.flatMap Run.c)) h hd)
  have hlen := Asd.mk (show (xs.flatMap Run.c).length = xs.length * 7 from length_flatMap Run.c 7 (fun _ => rfl) xs)
  clear h hk
  go_enter Try.func67, Try.ntmps67
  go_wp2
  go_loopw [1, 5] (fun kk i wr => ∃ j : Nat, j ≤ xs.length ∧ i = .int .i64 j ∧ kk = .int .i64 ((kTo (xs.flatMap Run.c) (j * 7) k : Nat) : Int) ∧ MS (xs.flatMap Run.c) 126 7 xs.length (.slice A xs.length c) F w k (j * 7) wr) (fun _ i _ => xs.length - (intOf i).toNat)
  case atStart => exact ⟨0, by omega, rfl, by rw [Nat.zero_mul, kTo_zero], by simpa using hS.out⟩
  case round =>
    obtain ⟨j, hj, rfl, rfl, M0⟩ := hrel
    by_cases hlt : j < xs.length
    · obtain ⟨g, rfl⟩ := M0.form (by omega)
      have hg0 : g < wr.heap.size := (M0.at).elim id (fun h => by have := hlen.out; omega)
      obtain ⟨l0, e0⟩ : ∃ h : j * 7 < (xs.flatMap Run.c).length, (xs.flatMap Run.c)[j * 7] = .s xs[j].Name := fm_at (enc := Run.c) (sz := 7) (q := 0) (fun _ => rfl) hlt (by omega) rfl
      replace e0 := Asd.mk e0
      obtain ⟨u0, p0, f0⟩ := M0.cell l0
      obtain ⟨l1, e1⟩ : ∃ h : j * 7 + 1 < (xs.flatMap Run.c).length, (xs.flatMap Run.c)[j * 7 + 1] = .b xs[j].Over := fm_at (enc := Run.c) (sz := 7) (q := 1) (fun _ => rfl) hlt (by omega) rfl
      replace e1 := Asd.mk e1
      obtain ⟨u1, p1, f1⟩ := M0.cell l1
      obtain ⟨l2, e2⟩ : ∃ h : j * 7 + 2 < (xs.flatMap Run.c).length, (xs.flatMap Run.c)[j * 7 + 2] = .b xs[j].Fail := fm_at (enc := Run.c) (sz := 7) (q := 2) (fun _ => rfl) hlt (by omega) rfl
      replace e2 := Asd.mk e2
      obtain ⟨u2, p2, f2⟩ := M0.cell l2
      obtain ⟨l3, e3⟩ : ∃ h : j * 7 + 3 < (xs.flatMap Run.c).length, (xs.flatMap Run.c)[j * 7 + 3] = .s xs[j].Text := fm_at (enc := Run.c) (sz := 7) (q := 3) (fun _ => rfl) hlt (by omega) rfl
      replace e3 := Asd.mk e3
      obtain ⟨u3, p3, f3⟩ := M0.cell l3
      obtain ⟨l4, e4⟩ : ∃ h : j * 7 + 4 < (xs.flatMap Run.c).length, (xs.flatMap Run.c)[j * 7 + 4] = .i .i64 xs[j].At := fm_at (enc := Run.c) (sz := 7) (q := 4) (fun _ => rfl) hlt (by omega) rfl
      replace e4 := Asd.mk e4
      obtain ⟨u4, p4, f4⟩ := M0.cell l4
      obtain ⟨l5, e5⟩ : ∃ h : j * 7 + 5 < (xs.flatMap Run.c).length, (xs.flatMap Run.c)[j * 7 + 5] = .i .i64 xs[j].Visits := fm_at (enc := Run.c) (sz := 7) (q := 5) (fun _ => rfl) hlt (by omega) rfl
      replace e5 := Asd.mk e5
      obtain ⟨u5, p5, f5⟩ := M0.cell l5
      obtain ⟨l6, e6⟩ : ∃ h : j * 7 + 6 < (xs.flatMap Run.c).length, (xs.flatMap Run.c)[j * 7 + 6] = strsT 9 xs[j].Texts := fm_at (enc := Run.c) (sz := 7) (q := 6) (fun _ => rfl) hlt (by omega) rfl
      replace e6 := Asd.mk e6
      obtain ⟨u6, p6, f6⟩ := M0.cell l6
      obtain ⟨K0, t0⟩ : ∃ K, kTo (xs.flatMap Run.c) (j * 7) k = K := ⟨_, rfl⟩
      have hKge : k ≤ K0 := by rw [← t0]; exact kTo_ge _ _ _
      have t1 : kTo (xs.flatMap Run.c) (j * 7 + 1) k = K0 + 1 := by rw [show j * 7 + 1 = (j * 7) + 1 from rfl, kTo_succ k l0, e0.out, t0]; rfl
      have t2 : kTo (xs.flatMap Run.c) (j * 7 + 2) k = K0 + 1 + 1 := by rw [show j * 7 + 2 = (j * 7 + 1) + 1 from rfl, kTo_succ k l1, e1.out, t1]; rfl
      have t3 : kTo (xs.flatMap Run.c) (j * 7 + 3) k = K0 + 1 + 1 + 1 := by rw [show j * 7 + 3 = (j * 7 + 2) + 1 from rfl, kTo_succ k l2, e2.out, t2]; rfl
      have t4 : kTo (xs.flatMap Run.c) (j * 7 + 4) k = K0 + 1 + 1 + 1 + 1 := by rw [show j * 7 + 4 = (j * 7 + 3) + 1 from rfl, kTo_succ k l3, e3.out, t3]; rfl
      have t5 : kTo (xs.flatMap Run.c) (j * 7 + 5) k = K0 + 1 + 1 + 1 + 1 + 1 := by rw [show j * 7 + 5 = (j * 7 + 4) + 1 from rfl, kTo_succ k l4, e4.out, t4]; rfl
      have t6 : kTo (xs.flatMap Run.c) (j * 7 + 6) k = K0 + 1 + 1 + 1 + 1 + 1 + 1 := by rw [show j * 7 + 6 = (j * 7 + 5) + 1 from rfl, kTo_succ k l5, e5.out, t5]; rfl
      obtain ⟨K1, s1⟩ : ∃ K, K0 + 1 + 1 + 1 + 1 + 1 + 1 + cnt (strsT 9 xs[j].Texts) = K := ⟨_, rfl⟩
      have t7 : kTo (xs.flatMap Run.c) (j * 7 + 7) k = K1 := by rw [show j * 7 + 7 = (j * 7 + 6) + 1 from rfl, kTo_succ k l6, e6.out, t6]; exact s1
      have z1 : K0 + 1 + 1 + 1 + 1 + 1 + 1 ≤ K1 := by omega
      replace s1 := Asd.mk s1
      have hE : K1 ≤ 1000000000 := by have := kTo_bd (xs.flatMap Run.c) (j * 7 + 7) k; rw [t7] at this; omega
      rw [t0]
      replace t0 := Asd.mk t0
      replace t1 := Asd.mk t1
      replace t2 := Asd.mk t2
      replace t3 := Asd.mk t3
      replace t4 := Asd.mk t4
      replace t5 := Asd.mk t5
      replace t6 := Asd.mk t6
      replace t7 := Asd.mk t7
      replace M0 := Asd.mk M0
      go_wp2_with fail
      refine (markText_callsI (K0) _ _ (by omega) (by omega) (by omega)).mono ?_
      rintro e w0 ⟨rfl, hb0⟩
      have hg1 : g < w0.heap.size := by have := hb0.size; (try simp at this); omega
      have hc0 : ∀ o, w0.cell? ⟨g, o, none⟩ = _ := fun o => hb0.cell (p := ⟨g, o, none⟩) (by first | (simp; done) | (simp; omega) | omega)
      have hf0 : ∀ o, w0.frozen? ⟨g, o, none⟩ = _ := fun o => hb0.frozen (p := ⟨g, o, none⟩) (by first | (simp; done) | (simp; omega) | omega)
      have M1 := Asd.mk ((M0.out.below hb0).store l0 (u := .string (mkB (K0))) (by rw [e0.out, t0.out]; exact own_s _ _))
      clear hb0
      have M2 := Asd.mk (M1.out.store l1 (u := .bool (((K0 : Int) + 1) % 3 == 0)) (by rw [e1.out, t1.out]; exact own_bN _ (by unfold m3; first | rfl | (congr 1; omega))))
      have M3 := Asd.mk (M2.out.store l2 (u := .bool (((K0 : Int) + 1 + 1) % 3 == 0)) (by rw [e2.out, t2.out]; exact own_bN _ (by unfold m3; first | rfl | (congr 1; omega))))
      go_wp2_with fail
      refine (markText_callsI (K0 + 1 + 1 + 1) _ _ (by omega) (by omega) (by omega)).mono ?_
      rintro e w3 ⟨rfl, hb3⟩
      have hg4 : g < w3.heap.size := by have := hb3.size; (try simp at this); omega
      have hc3 : ∀ o, w3.cell? ⟨g, o, none⟩ = _ := fun o => hb3.cell (p := ⟨g, o, none⟩) (by first | (simp; done) | (simp; omega) | omega)
      have hf3 : ∀ o, w3.frozen? ⟨g, o, none⟩ = _ := fun o => hb3.frozen (p := ⟨g, o, none⟩) (by first | (simp; done) | (simp; omega) | omega)
      have M4 := Asd.mk ((M3.out.below hb3).store l3 (u := .string (mkB (K0 + 1 + 1 + 1))) (by rw [e3.out, t3.out]; exact own_s _ _))
      clear hb3
      have M5 := Asd.mk (M4.out.store l4 (u := .int .i64 ((K0 : Int) + 1 + 1 + 1 + 1)) (by rw [e4.out, t4.out]; exact own_iN _ _ (by omega)))
      have M6 := Asd.mk (M5.out.store l5 (u := .int .i64 ((K0 : Int) + 1 + 1 + 1 + 1 + 1)) (by rw [e5.out, t5.out]; exact own_iN _ _ (by omega)))
      obtain ⟨v6, F6, o6, d6, g6, c6, back6⟩ := M6.out.nested l6
      replace c6 := Asd.mk c6
      obtain rfl : v6 = u6 := Option.some.inj (c6.out.symm.trans (by go_simp))
      clear c6
      rw [e6.out, t6.out] at back6
      rw [e6.out] at o6
      obtain ⟨A6, C6, rfl, _, _⟩ := own_slice (show own _ (strsT 9 xs[j].Texts) v6 F6 from o6)
      replace o6 := Asd.mk o6
      replace back6 := Asd.mk back6
      replace d6 := Asd.mk d6
      have hx6 := markStringS_calls xs[j].Texts _ F6 (K0 + 1 + 1 + 1 + 1 + 1 + 1) ((K0 : Int) + 1 + 1 + 1 + 1 + 1 + 1) _ (by omega) o6.out d6.out (by omega) (by have := s1.out; omega)
      replace hx6 := Asd.mk hx6
      go_wp2_with fail
      refine hx6.out.mono ?_
      rintro e w6 hM6
      obtain ⟨M7, hc6, hf6⟩ := back6.out _ _ hM6
      have he6 := hM6.1
      rw [s1.out] at he6
      subst he6
      have hg7 : g < w6.heap.size := by have := hM6.2.2.size; (try simp at this); omega
      replace M7 := Asd.mk M7
      clear hM6
      go_wp2
      go_roundw
      case rel => exact ⟨j + 1, by omega, by go_num, by first | (rw [show (j + 1) * 7 = j * 7 + 7 by omega, t7.out]; done) | (rw [show (j + 1) * 7 = j * 7 + 7 by omega, t7.out]; first | rfl | go_num), by rw [show (j + 1) * 7 = j * 7 + 7 by omega]; exact M7.out⟩
      case measure => simp [intOf]; omega
    · obtain rfl : j = xs.length := by omega
      have e1 := Asd.mk (show kTo (xs.flatMap Run.c) (xs.length * 7) k = k + cnt (RunsT 126 xs) by rw [← hlen.out]; exact kTo_end _ _)
      have M1 := Asd.mk M0.fr
      replace M0 := Asd.mk (MS.fin2 hlen.out.symm M0)
      go_wp2
      go_ret
      exact ⟨by rw [e1.out]; rfl, M0.out, M1.out⟩
set_option maxRecDepth 100000 in
set_option maxHeartbeats 4000000 in
theorem heldRunS_calls (xs : List Run) (v : Value) (F : List Nat) (k : Nat) (n : Int) (w : World) (hn : n = k) (h : own w (mrk (RunsT 126 xs) k) v F) (h0 : 1 ≤ k) (hk : k + cnt (RunsT 126 xs) ≤ 1000000000) :
    Calls Try.prog 69 #[v, .int .i64 n] w fun e w' => e = .returned (.int .i64 ((k + cnt (RunsT 126 xs) : Nat) : Int)) ∧ Below w.heap.size w w' := by
  subst hn
  replace h : own w (.l 126 7 xs.length (mrks (xs.flatMap Run.c) k)) v F := h
  obtain ⟨A, c, rfl, _, _⟩ := own_slice h
  have hk2 : k + cnts (xs.flatMap Run.c) ≤ 1000000000 := hk
  have hlen := Asd.mk (show (xs.flatMap Run.c).length = xs.length * 7 from length_flatMap Run.c 7 (fun _ => rfl) xs)
  replace h := Asd.mk h
  clear hk
  go_enter Try.func69, Try.ntmps69
  go_wp2
  go_loopw [1, 5] (fun kk i wr => ∃ j : Nat, j ≤ xs.length ∧ i = .int .i64 j ∧ kk = .int .i64 ((kTo (xs.flatMap Run.c) (j * 7) k : Nat) : Int) ∧ Below w.heap.size w wr) (fun _ i _ => xs.length - (intOf i).toNat)
  case atStart => exact ⟨0, by omega, rfl, by rw [Nat.zero_mul, kTo_zero], Below.refl _ _⟩
  case round =>
    obtain ⟨j, hj, rfl, rfl, HB⟩ := hrel
    replace HB := Asd.mk HB
    by_cases hlt : j < xs.length
    · obtain ⟨g, rfl⟩ : ∃ g, A = some ⟨g, 0, none⟩ := by
        obtain ⟨g, c', he, _⟩ := own_form h.out (by omega)
        cases he; exact ⟨g, rfl⟩
      obtain ⟨l0, e0⟩ : ∃ h : j * 7 < (xs.flatMap Run.c).length, (xs.flatMap Run.c)[j * 7] = .s xs[j].Name := fm_at (enc := Run.c) (sz := 7) (q := 0) (fun _ => rfl) hlt (by omega) rfl
      replace e0 := Asd.mk e0
      obtain ⟨l1, e1⟩ : ∃ h : j * 7 + 1 < (xs.flatMap Run.c).length, (xs.flatMap Run.c)[j * 7 + 1] = .b xs[j].Over := fm_at (enc := Run.c) (sz := 7) (q := 1) (fun _ => rfl) hlt (by omega) rfl
      replace e1 := Asd.mk e1
      obtain ⟨l2, e2⟩ : ∃ h : j * 7 + 2 < (xs.flatMap Run.c).length, (xs.flatMap Run.c)[j * 7 + 2] = .b xs[j].Fail := fm_at (enc := Run.c) (sz := 7) (q := 2) (fun _ => rfl) hlt (by omega) rfl
      replace e2 := Asd.mk e2
      obtain ⟨l3, e3⟩ : ∃ h : j * 7 + 3 < (xs.flatMap Run.c).length, (xs.flatMap Run.c)[j * 7 + 3] = .s xs[j].Text := fm_at (enc := Run.c) (sz := 7) (q := 3) (fun _ => rfl) hlt (by omega) rfl
      replace e3 := Asd.mk e3
      obtain ⟨l4, e4⟩ : ∃ h : j * 7 + 4 < (xs.flatMap Run.c).length, (xs.flatMap Run.c)[j * 7 + 4] = .i .i64 xs[j].At := fm_at (enc := Run.c) (sz := 7) (q := 4) (fun _ => rfl) hlt (by omega) rfl
      replace e4 := Asd.mk e4
      obtain ⟨l5, e5⟩ : ∃ h : j * 7 + 5 < (xs.flatMap Run.c).length, (xs.flatMap Run.c)[j * 7 + 5] = .i .i64 xs[j].Visits := fm_at (enc := Run.c) (sz := 7) (q := 5) (fun _ => rfl) hlt (by omega) rfl
      replace e5 := Asd.mk e5
      obtain ⟨l6, e6⟩ : ∃ h : j * 7 + 6 < (xs.flatMap Run.c).length, (xs.flatMap Run.c)[j * 7 + 6] = strsT 9 xs[j].Texts := fm_at (enc := Run.c) (sz := 7) (q := 6) (fun _ => rfl) hlt (by omega) rfl
      replace e6 := Asd.mk e6
      obtain ⟨K0, t0⟩ : ∃ K, kTo (xs.flatMap Run.c) (j * 7) k = K := ⟨_, rfl⟩
      have hKge : k ≤ K0 := by rw [← t0]; exact kTo_ge _ _ _
      have t1 : kTo (xs.flatMap Run.c) (j * 7 + 1) k = K0 + 1 := by rw [show j * 7 + 1 = (j * 7) + 1 from rfl, kTo_succ k l0, e0.out, t0]; rfl
      have t2 : kTo (xs.flatMap Run.c) (j * 7 + 2) k = K0 + 1 + 1 := by rw [show j * 7 + 2 = (j * 7 + 1) + 1 from rfl, kTo_succ k l1, e1.out, t1]; rfl
      have t3 : kTo (xs.flatMap Run.c) (j * 7 + 3) k = K0 + 1 + 1 + 1 := by rw [show j * 7 + 3 = (j * 7 + 2) + 1 from rfl, kTo_succ k l2, e2.out, t2]; rfl
      have t4 : kTo (xs.flatMap Run.c) (j * 7 + 4) k = K0 + 1 + 1 + 1 + 1 := by rw [show j * 7 + 4 = (j * 7 + 3) + 1 from rfl, kTo_succ k l3, e3.out, t3]; rfl
      have t5 : kTo (xs.flatMap Run.c) (j * 7 + 5) k = K0 + 1 + 1 + 1 + 1 + 1 := by rw [show j * 7 + 5 = (j * 7 + 4) + 1 from rfl, kTo_succ k l4, e4.out, t4]; rfl
      have t6 : kTo (xs.flatMap Run.c) (j * 7 + 6) k = K0 + 1 + 1 + 1 + 1 + 1 + 1 := by rw [show j * 7 + 6 = (j * 7 + 5) + 1 from rfl, kTo_succ k l5, e5.out, t5]; rfl
      obtain ⟨K1, s1⟩ : ∃ K, K0 + 1 + 1 + 1 + 1 + 1 + 1 + cnt (strsT 9 xs[j].Texts) = K := ⟨_, rfl⟩
      have t7 : kTo (xs.flatMap Run.c) (j * 7 + 7) k = K1 := by rw [show j * 7 + 7 = (j * 7 + 6) + 1 from rfl, kTo_succ k l6, e6.out, t6]; exact s1
      have z1 : K0 + 1 + 1 + 1 + 1 + 1 + 1 ≤ K1 := by omega
      replace s1 := Asd.mk s1
      have hE : K1 ≤ 1000000000 := by have := kTo_bd (xs.flatMap Run.c) (j * 7 + 7) k; rw [t7] at this; omega
      rw [t0]
      replace t0 := Asd.mk t0
      replace t1 := Asd.mk t1
      replace t2 := Asd.mk t2
      replace t3 := Asd.mk t3
      replace t4 := Asd.mk t4
      replace t5 := Asd.mk t5
      replace t6 := Asd.mk t6
      replace t7 := Asd.mk t7
      obtain ⟨u0, F0, o0, c0⟩ := mrk_cell h.out l0
      rw [e0.out, t0.out] at o0
      obtain rfl : u0 = .string (mkB (K0)) := by
        have h : own w (.s (mkB (K0))) u0 F0 := o0
        simp only [own] at h
        rw [h.1]
      clear o0
      have k0 := Asd.mk (fun (X : World) (hX : Below w.heap.size w X) => cell_below hX c0)
      obtain ⟨u1, F1, o1, c1⟩ := mrk_cell h.out l1
      rw [e1.out, t1.out] at o1
      obtain rfl : u1 = .bool (((K0 : Int) + 1) % 3 == 0) := by
        have h : own w (.b (m3 (K0 + 1))) u1 F1 := o1
        simp only [own] at h
        rw [h.1]
        unfold m3
        first | rfl | (congr 1; omega) | (congr 2; omega)
      clear o1
      have k1 := Asd.mk (fun (X : World) (hX : Below w.heap.size w X) => cell_below hX c1)
      obtain ⟨u2, F2, o2, c2⟩ := mrk_cell h.out l2
      rw [e2.out, t2.out] at o2
      obtain rfl : u2 = .bool (((K0 : Int) + 1 + 1) % 3 == 0) := by
        have h : own w (.b (m3 (K0 + 1 + 1))) u2 F2 := o2
        simp only [own] at h
        rw [h.1]
        unfold m3
        first | rfl | (congr 1; omega) | (congr 2; omega)
      clear o2
      have k2 := Asd.mk (fun (X : World) (hX : Below w.heap.size w X) => cell_below hX c2)
      obtain ⟨u3, F3, o3, c3⟩ := mrk_cell h.out l3
      rw [e3.out, t3.out] at o3
      obtain rfl : u3 = .string (mkB (K0 + 1 + 1 + 1)) := by
        have h : own w (.s (mkB (K0 + 1 + 1 + 1))) u3 F3 := o3
        simp only [own] at h
        rw [h.1]
      clear o3
      have k3 := Asd.mk (fun (X : World) (hX : Below w.heap.size w X) => cell_below hX c3)
      obtain ⟨u4, F4, o4, c4⟩ := mrk_cell h.out l4
      rw [e4.out, t4.out] at o4
      obtain rfl : u4 = .int .i64 ((K0 : Int) + 1 + 1 + 1 + 1) := by
        have h : own w (.i .i64 ((K0 + 1 + 1 + 1 + 1 : Nat) : Int)) u4 F4 := o4
        simp only [own] at h
        rw [h.1]
        congr 1
      clear o4
      have k4 := Asd.mk (fun (X : World) (hX : Below w.heap.size w X) => cell_below hX c4)
      obtain ⟨u5, F5, o5, c5⟩ := mrk_cell h.out l5
      rw [e5.out, t5.out] at o5
      obtain rfl : u5 = .int .i64 ((K0 : Int) + 1 + 1 + 1 + 1 + 1) := by
        have h : own w (.i .i64 ((K0 + 1 + 1 + 1 + 1 + 1 : Nat) : Int)) u5 F5 := o5
        simp only [own] at h
        rw [h.1]
        congr 1
      clear o5
      have k5 := Asd.mk (fun (X : World) (hX : Below w.heap.size w X) => cell_below hX c5)
      obtain ⟨u6, F6, o6, c6⟩ := mrk_cell h.out l6
      rw [e6.out, t6.out] at o6
      replace o6 : own w (mrk (strsT 9 xs[j].Texts) (K0 + 1 + 1 + 1 + 1 + 1 + 1)) u6 F6 := o6
      obtain ⟨A6, C6, rfl, _, _⟩ : ∃ A c, u6 = .slice A (xs[j].Texts).length c ∧ (xs[j].Texts).length ≤ c ∧ (xs[j].Texts).length ≤ 9223372036854775807 := own_slice o6
      replace o6 := Asd.mk o6
      have k6 := Asd.mk (fun (X : World) (hX : Below w.heap.size w X) => cell_below hX c6)
      clear c0 c1 c2 c3 c4 c5 c6
      have r0 := k0.out _ HB.out
      have r1 := k1.out _ HB.out
      have r2 := k2.out _ HB.out
      have r3 := k3.out _ HB.out
      have r4 := k4.out _ HB.out
      have r5 := k5.out _ HB.out
      have r6 := k6.out _ HB.out
      have i0 : (0 : Int) ≤ (j : Int) := by omega
      have i1 : (j : Int) < (xs.length : Int) := by omega
      go_wp2
      go_region_held3 (fun X => X.cell? ⟨g, j * 7, none⟩ = some (.string (mkB (K0)))) ((refine k0.out _ ?_; (repeat (first | (with_reducible exact Below.refl _ _) | (with_reducible exact HB.out) | (with_reducible exact hb5.out) | (with_reducible refine below_al ?_ _) | (with_reducible refine below_dr ?_ _) | (with_reducible refine below_d1 ?_) | ((with_reducible refine Below.setCell ?_ ?_ _); rotate_left; (next => first | (simp; done) | (simp; omega) | omega)))); done))
        ((go_at_call 66; refine (markText_callsI (K0) _ _ (by omega) (by omega) (by omega)).mono ?_; rintro e w0 ⟨rfl, hb⟩; have hb5 := Asd.mk (below_st (w := w) (by repeat (first | (with_reducible exact Below.refl _ _) | (with_reducible exact HB.out) | (with_reducible refine below_al ?_ _) | (with_reducible refine below_dr ?_ _) | (with_reducible refine below_d1 ?_) | ((with_reducible refine Below.setCell ?_ ?_ _); rotate_left; (next => first | (simp; done) | (simp; omega) | omega)))) hb); clear hb))
      have HB0 := Asd.mk (show Below w.heap.size w w0 from by repeat (first | (with_reducible exact Below.refl _ _) | (with_reducible exact hb5.out) | (with_reducible refine below_al ?_ _) | (with_reducible refine below_dr ?_ _) | (with_reducible refine below_d1 ?_) | ((with_reducible refine Below.setCell ?_ ?_ _); rotate_left; (next => first | (simp; done) | (simp; omega) | omega))))
      clear hb5
      replace r0 := k0.out _ HB0.out
      replace r1 := k1.out _ HB0.out
      replace r2 := k2.out _ HB0.out
      replace r3 := k3.out _ HB0.out
      replace r4 := k4.out _ HB0.out
      replace r5 := k5.out _ HB0.out
      replace r6 := k6.out _ HB0.out
      go_wp2
      go_region_held3 (fun X => X.cell? ⟨g, j * 7 + 3, none⟩ = some (.string (mkB (K0 + 1 + 1 + 1)))) ((refine k3.out _ ?_; (repeat (first | (with_reducible exact Below.refl _ _) | (with_reducible exact HB0.out) | (with_reducible exact hb5.out) | (with_reducible refine below_al ?_ _) | (with_reducible refine below_dr ?_ _) | (with_reducible refine below_d1 ?_) | ((with_reducible refine Below.setCell ?_ ?_ _); rotate_left; (next => first | (simp; done) | (simp; omega) | omega)))); done))
        ((go_at_call 66; refine (markText_callsI (K0 + 1 + 1 + 1) _ _ (by omega) (by omega) (by omega)).mono ?_; rintro e w3 ⟨rfl, hb⟩; have hb5 := Asd.mk (below_st (w := w) (by repeat (first | (with_reducible exact Below.refl _ _) | (with_reducible exact HB0.out) | (with_reducible refine below_al ?_ _) | (with_reducible refine below_dr ?_ _) | (with_reducible refine below_d1 ?_) | ((with_reducible refine Below.setCell ?_ ?_ _); rotate_left; (next => first | (simp; done) | (simp; omega) | omega)))) hb); clear hb))
      have HB3 := Asd.mk (show Below w.heap.size w w3 from by repeat (first | (with_reducible exact Below.refl _ _) | (with_reducible exact hb5.out) | (with_reducible refine below_al ?_ _) | (with_reducible refine below_dr ?_ _) | (with_reducible refine below_d1 ?_) | ((with_reducible refine Below.setCell ?_ ?_ _); rotate_left; (next => first | (simp; done) | (simp; omega) | omega))))
      clear hb5
      replace r0 := k0.out _ HB3.out
      replace r1 := k1.out _ HB3.out
      replace r2 := k2.out _ HB3.out
      replace r3 := k3.out _ HB3.out
      replace r4 := k4.out _ HB3.out
      replace r5 := k5.out _ HB3.out
      replace r6 := k6.out _ HB3.out
      go_wp2_with fail
      refine (heldStringS_calls xs[j].Texts _ F6 (K0 + 1 + 1 + 1 + 1 + 1 + 1) _ _ (by omega) (o6.out.below (by repeat (first | (with_reducible exact Below.refl _ _) | (with_reducible exact HB3.out) | (with_reducible refine below_al ?_ _) | (with_reducible refine below_dr ?_ _) | (with_reducible refine below_d1 ?_) | ((with_reducible refine Below.setCell ?_ ?_ _); rotate_left; (next => first | (simp; done) | (simp; omega) | omega))))) (by omega) (by have := s1.out; omega)).mono ?_
      rintro e w6 ⟨he, hb⟩
      rw [s1.out] at he
      subst he
      have HB6 := Asd.mk (below_st (w := w) (by repeat (first | (with_reducible exact Below.refl _ _) | (with_reducible exact HB3.out) | (with_reducible refine below_al ?_ _) | (with_reducible refine below_dr ?_ _) | (with_reducible refine below_d1 ?_) | ((with_reducible refine Below.setCell ?_ ?_ _); rotate_left; (next => first | (simp; done) | (simp; omega) | omega)))) hb)
      clear hb
      replace r0 := k0.out _ HB6.out
      replace r1 := k1.out _ HB6.out
      replace r2 := k2.out _ HB6.out
      replace r3 := k3.out _ HB6.out
      replace r4 := k4.out _ HB6.out
      replace r5 := k5.out _ HB6.out
      replace r6 := k6.out _ HB6.out
      go_wp2
      go_roundw
      case rel => exact ⟨j + 1, by omega, by go_num, by first | (rw [show (j + 1) * 7 = j * 7 + 7 by omega, t7.out]; done) | (rw [show (j + 1) * 7 = j * 7 + 7 by omega, t7.out]; first | rfl | go_num), HB6.out⟩
      case measure => simp [intOf]; omega
    · obtain rfl : j = xs.length := by omega
      have e1 := Asd.mk (show kTo (xs.flatMap Run.c) (xs.length * 7) k = k + cnt (RunsT 126 xs) by rw [← hlen.out]; exact kTo_end _ _)
      go_wp2
      go_ret
      exact ⟨by rw [e1.out]; rfl, HB.out⟩
set_option maxRecDepth 100000 in
set_option maxHeartbeats 2000000 in
theorem markState_calls (x : State) (lo hi k : Nat) (n : Int) (w : World) (hn : n = k) {vs : List Value} (h : Iv lo hi w (x.c 126) vs) (h0 : 1 ≤ k) (hk : k + cntl (x.c 126) ≤ 1000000000) :
    Calls Try.prog 30 #[.agg vs.toArray, .int .i64 n] w (MrkI (x.c 126) vs lo hi k w) := by
  subst hn
  obtain ⟨F, o, hd, hF⟩ := h
  obtain ⟨v0, F0, v1, F1, rfl, p0, p1, hf_⟩ := State.oopen o
  obtain rfl := hf_.symm
  clear o
  obtain ⟨A0, c0, rfl, _, _⟩ := own_slice p0
  obtain ⟨A1, c1, rfl, _, _⟩ := own_slice p1
  have ec := Asd.mk (show cntl (x.c 126) = cnt (strsT 9 x.Roots) + (cnt (RunsT 126 x.Runs) + 0) from rfl)
  rw [ec.out] at hk
  obtain ⟨K0, hK0⟩ : ∃ K, k + cnt (strsT 9 x.Roots) = K := ⟨_, rfl⟩
  have z0 : k ≤ K0 := by omega
  obtain ⟨K1, hK1⟩ : ∃ K, K0 + cnt (RunsT 126 x.Runs) = K := ⟨_, rfl⟩
  have z1 : K0 ≤ K1 := by omega
  have eK := Asd.mk (show k + cntl (x.c 126) = K1 by rw [ec.out]; omega)
  have hk2 : K1 ≤ 1000000000 := by omega
  clear hk
  replace hK0 := Asd.mk hK0
  replace hK1 := Asd.mk hK1
  have l0 := p0.lt
  have l1 := p1.lt
  obtain ⟨nl1, nn1, nd1⟩ := List.nodup_append.1 hd
  have nn0 := nl1
  have dj0_1 : ∀ b ∈ F0, b ∉ F1 := fun b h1 h2 => nd1 b (by first | exact h1 | simp [h1]) b h2 rfl
  have dj1_0 : ∀ b ∈ F1, b ∉ F0 := fun b h1 h2 => nd1 b (by first | exact h2 | simp [h2]) b h1 rfl
  replace p0 := Asd.mk p0
  replace l0 := Asd.mk l0
  replace nn0 := Asd.mk nn0
  replace p1 := Asd.mk p1
  replace l1 := Asd.mk l1
  replace nn1 := Asd.mk nn1
  replace dj0_1 := Asd.mk dj0_1
  replace dj1_0 := Asd.mk dj1_0
  replace hF := Asd.mk hF
  go_enter Try.func30, Try.ntmps30
  go_wp2_with fail
  refine (markStringS_calls x.Roots _ F0 (k) (k : Int) _ rfl (p0.out.below (by repeat (first | (with_reducible exact Below.refl _ _) | (with_reducible exact Below.refl _ _) | (with_reducible refine below_al ?_ _) | (with_reducible refine below_dr ?_ _) | (with_reducible refine below_d1 ?_) | ((with_reducible refine Below.setCell ?_ ?_ _); rotate_left; (next => first | (simp; done) | (simp; omega) | omega))))) nn0.out (by omega) (by have := hK0.out; omega)).mono ?_
  rintro e w0 ⟨he, ⟨G0, o0, d0, s0⟩, m0⟩
  rw [hK0.out] at he
  subst he
  have b0_0 : w0.cell? ⟨w.heap.size, 0, none⟩ = some (.slice A0 (x.Roots).length c0) := by
    rw [m0.cell (by first | (simp; done) | (simp; omega) | omega) (fun hb => by have := l0.out _ hb; omega)]; first | exact bx_0 | go_simp
  have b0_1 : w0.cell? ⟨w.heap.size, 1, none⟩ = some (.slice A1 (x.Runs).length c1) := by
    rw [m0.cell (by first | (simp; done) | (simp; omega) | omega) (fun hb => by have := l0.out _ hb; omega)]; first | exact bx_1 | go_simp
  have y0 : w.heap.size < w0.heap.size := by have := m0.size; (try simp at this); omega
  have q0_1 := Asd.mk (m0.own (p1.out.below (by repeat (first | (with_reducible exact Below.refl _ _) | (with_reducible exact Below.refl _ _) | (with_reducible refine below_al ?_ _) | (with_reducible refine below_dr ?_ _) | (with_reducible refine below_d1 ?_) | ((with_reducible refine Below.setCell ?_ ?_ _); rotate_left; (next => first | (simp; done) | (simp; omega) | omega))))) dj1_0.out)
  have M0 := Asd.mk (MFr.trans (F := F0 ++ F1) (MFr.of_below (show Below w.heap.size w _ from by repeat (first | (with_reducible exact Below.refl _ _) | (with_reducible exact Below.refl _ _) | (with_reducible refine below_al ?_ _) | (with_reducible refine below_dr ?_ _) | (with_reducible refine below_d1 ?_) | ((with_reducible refine Below.setCell ?_ ?_ _); rotate_left; (next => first | (simp; done) | (simp; omega) | omega))))) (m0.mono (fun b hb => by simp [hb])))
  replace o0 := Asd.mk o0
  replace d0 := Asd.mk d0
  replace s0 := Asd.mk s0
  clear m0
  go_wp2_with fail
  refine (markRunS_calls x.Runs _ F1 (K0) (K0 : Int) _ rfl (q0_1.out.below (by repeat (first | (with_reducible exact Below.refl _ _) | (with_reducible exact Below.refl _ _) | (with_reducible refine below_al ?_ _) | (with_reducible refine below_dr ?_ _) | (with_reducible refine below_d1 ?_) | ((with_reducible refine Below.setCell ?_ ?_ _); rotate_left; (next => first | (simp; done) | (simp; omega) | omega))))) nn1.out (by omega) (by have := hK1.out; omega)).mono ?_
  rintro e w1 ⟨he, ⟨G1, o1, d1, s1⟩, m1⟩
  rw [hK1.out] at he
  subst he
  have b1_0 : w1.cell? ⟨w.heap.size, 0, none⟩ = some (.slice A0 (x.Roots).length c0) := by
    rw [m1.cell (by first | (simp; done) | (simp; omega) | omega) (fun hb => by have := l1.out _ hb; omega)]; first | exact b0_0 | go_simp
  have b1_1 : w1.cell? ⟨w.heap.size, 1, none⟩ = some (.slice A1 (x.Runs).length c1) := by
    rw [m1.cell (by first | (simp; done) | (simp; omega) | omega) (fun hb => by have := l1.out _ hb; omega)]; first | exact b0_1 | go_simp
  have y1 : w.heap.size < w1.heap.size := by have := m1.size; (try simp at this); omega
  have M1 := Asd.mk (M0.out.trans (MFr.trans (MFr.of_below (by repeat (first | (with_reducible exact Below.refl _ _) | (with_reducible exact Below.refl _ _) | (with_reducible refine below_al ?_ _) | (with_reducible refine below_dr ?_ _) | (with_reducible refine below_d1 ?_) | ((with_reducible refine Below.setCell ?_ ?_ _); rotate_left; (next => first | (simp; done) | (simp; omega) | omega))))) (m1.mono (fun b hb => by simp [hb]))))
  replace o1 := Asd.mk o1
  replace d1 := Asd.mk d1
  replace s1 := Asd.mk s1
  have o0 := Asd.mk (m1.own (o0.out.below (by repeat (first | (with_reducible exact Below.refl _ _) | (with_reducible exact Below.refl _ _) | (with_reducible refine below_al ?_ _) | (with_reducible refine below_dr ?_ _) | (with_reducible refine below_d1 ?_) | ((with_reducible refine Below.setCell ?_ ?_ _); rotate_left; (next => first | (simp; done) | (simp; omega) | omega))))) (fun b hb => dj0_1.out b (s0.out b hb)))
  clear m1
  go_wp2_with fail
  go_ret
  have z := M1.out
  refine ⟨by rw [eK.out]; try rfl, ⟨G0 ++ G1, ?_, ?_, ?_⟩, ?_⟩
  · show owns _ [mrk (strsT 9 x.Roots) (k), mrk (RunsT 126 x.Runs) (k + cnt (strsT 9 x.Roots))] _ _
    rw [hK0.out]
    simp only [owns]
    have hz : (G0 ++ (G1 ++ [])) = G0 ++ G1 := by simp
    rw [← hz]
    exact ⟨_, _, G0, _, rfl, o0.out.below (by repeat (first | (with_reducible exact Below.refl _ _) | (with_reducible exact Below.refl _ _) | (with_reducible refine below_al ?_ _) | (with_reducible refine below_dr ?_ _) | (with_reducible refine below_d1 ?_) | ((with_reducible refine Below.setCell ?_ ?_ _); rotate_left; (next => first | (simp; done) | (simp; omega) | omega)))), ⟨_, _, G1, _, rfl, o1.out.below (by repeat (first | (with_reducible exact Below.refl _ _) | (with_reducible exact Below.refl _ _) | (with_reducible refine below_al ?_ _) | (with_reducible refine below_dr ?_ _) | (with_reducible refine below_d1 ?_) | ((with_reducible refine Below.setCell ?_ ?_ _); rotate_left; (next => first | (simp; done) | (simp; omega) | omega)))), ⟨rfl, rfl⟩, rfl⟩, rfl⟩
  · exact (nod2 d0.out d1.out (fun b h1 h2 => dj0_1.out b (s0.out b h1) (s1.out b h2)))
  · intro b hb
    refine hF.out b ?_
    try simp only [List.mem_append] at hb ⊢
    rcases hb with h | h
    · exact .inl (s0.out b h)
    · exact .inr (s1.out b h)
  · exact ⟨z.os, z.tape, z.output, z.size, fun b hb ho => z.block b hb (fun hf => by have := hF.out b hf; omega)⟩
set_option maxRecDepth 100000 in
set_option maxHeartbeats 2000000 in
theorem heldState_calls (x : State) (lo hi k : Nat) (n : Int) (w : World) (hn : n = k) {vs : List Value} (h : Iv lo hi w (mrkl (x.c 126) k) vs) (h0 : 1 ≤ k) (hk : k + cntl (x.c 126) ≤ 1000000000) :
    Calls Try.prog 31 #[.agg vs.toArray, .int .i64 n] w fun e w' => e = .returned (.int .i64 ((k + cntl (x.c 126) : Nat) : Int)) ∧ Below w.heap.size w w' := by
  subst hn
  obtain ⟨F, o, hd, hF⟩ := h
  replace o : owns w [mrk (strsT 9 x.Roots) (k), mrk (RunsT 126 x.Runs) (k + cnt (strsT 9 x.Roots))] vs F := o
  simp only [owns] at o
  obtain ⟨v0, _, F0, _, rfl, p0, ⟨v1, _, F1, _, rfl, p1, ⟨rfl, rfl⟩, rfl⟩, rfl⟩ := o
  clear hd hF
  obtain ⟨A0, c0, rfl, _, _⟩ : ∃ A c, v0 = .slice A (x.Roots).length c ∧ (x.Roots).length ≤ c ∧ (x.Roots).length ≤ 9223372036854775807 := own_slice p0
  obtain ⟨A1, c1, rfl, _, _⟩ : ∃ A c, v1 = .slice A (x.Runs).length c ∧ (x.Runs).length ≤ c ∧ (x.Runs).length ≤ 9223372036854775807 := own_slice p1
  have ec := Asd.mk (show cntl (x.c 126) = cnt (strsT 9 x.Roots) + (cnt (RunsT 126 x.Runs) + 0) from rfl)
  rw [ec.out] at hk
  obtain ⟨K0, hK0⟩ : ∃ K, k + cnt (strsT 9 x.Roots) = K := ⟨_, rfl⟩
  have z0 : k ≤ K0 := by omega
  obtain ⟨K1, hK1⟩ : ∃ K, K0 + cnt (RunsT 126 x.Runs) = K := ⟨_, rfl⟩
  have z1 : K0 ≤ K1 := by omega
  have eK := Asd.mk (show k + cntl (x.c 126) = K1 by rw [ec.out]; omega)
  have hk2 : K1 ≤ 1000000000 := by omega
  clear hk
  replace hK0 := Asd.mk hK0
  replace hK1 := Asd.mk hK1
  have l0 := p0.lt
  have l1 := p1.lt
  rw [hK0.out] at p1
  replace p0 := Asd.mk p0
  clear l0
  replace p1 := Asd.mk p1
  clear l1
  have h1 : ¬((K0 : Int) < 0) := by omega
  have h2 : ¬((K1 : Int) < 0) := by omega
  go_enter Try.func31, Try.ntmps31
  go_wp2_with fail
  refine (heldStringS_calls x.Roots _ F0 (k) (k : Int) _ rfl (p0.out.below (by repeat (first | (with_reducible exact Below.refl _ _) | (with_reducible exact Below.refl _ _) | (with_reducible refine below_al ?_ _) | (with_reducible refine below_dr ?_ _) | (with_reducible refine below_d1 ?_) | ((with_reducible refine Below.setCell ?_ ?_ _); rotate_left; (next => first | (simp; done) | (simp; omega) | omega))))) (by omega) (by have := hK0.out; omega)).mono ?_
  rintro e w0 ⟨rfl, hb⟩
  have HB0 := Asd.mk (below_st (show Below w.heap.size w _ from by repeat (first | (with_reducible exact Below.refl _ _) | (with_reducible exact Below.refl _ _) | (with_reducible refine below_al ?_ _) | (with_reducible refine below_dr ?_ _) | (with_reducible refine below_d1 ?_) | ((with_reducible refine Below.setCell ?_ ?_ _); rotate_left; (next => first | (simp; done) | (simp; omega) | omega)))) hb)
  rw [hK0.out]
  have b0_0 : w0.cell? ⟨w.heap.size, 0, none⟩ = some (.slice A0 (x.Roots).length c0) := by
    rw [hb.cell (by first | (simp; done) | (simp; omega) | omega)]; first | exact bx_0 | go_simp
  have b0_1 : w0.cell? ⟨w.heap.size, 1, none⟩ = some (.slice A1 (x.Runs).length c1) := by
    rw [hb.cell (by first | (simp; done) | (simp; omega) | omega)]; first | exact bx_1 | go_simp
  have y0 : w.heap.size < w0.heap.size := by have := hb.size; (try simp at this); omega
  clear hb
  go_wp2_with fail
  refine (heldRunS_calls x.Runs _ F1 (K0) (K0 : Int) _ rfl (p1.out.below (by repeat (first | (with_reducible exact Below.refl _ _) | (with_reducible exact HB0.out) | (with_reducible refine below_al ?_ _) | (with_reducible refine below_dr ?_ _) | (with_reducible refine below_d1 ?_) | ((with_reducible refine Below.setCell ?_ ?_ _); rotate_left; (next => first | (simp; done) | (simp; omega) | omega))))) (by omega) (by have := hK1.out; omega)).mono ?_
  rintro e w1 ⟨rfl, hb⟩
  have HB1 := Asd.mk (below_st (show Below w.heap.size w _ from by repeat (first | (with_reducible exact Below.refl _ _) | (with_reducible exact HB0.out) | (with_reducible refine below_al ?_ _) | (with_reducible refine below_dr ?_ _) | (with_reducible refine below_d1 ?_) | ((with_reducible refine Below.setCell ?_ ?_ _); rotate_left; (next => first | (simp; done) | (simp; omega) | omega)))) hb)
  rw [hK1.out]
  have b1_0 : w1.cell? ⟨w.heap.size, 0, none⟩ = some (.slice A0 (x.Roots).length c0) := by
    rw [hb.cell (by first | (simp; done) | (simp; omega) | omega)]; first | exact b0_0 | go_simp
  have b1_1 : w1.cell? ⟨w.heap.size, 1, none⟩ = some (.slice A1 (x.Runs).length c1) := by
    rw [hb.cell (by first | (simp; done) | (simp; omega) | omega)]; first | exact b0_1 | go_simp
  have y1 : w.heap.size < w1.heap.size := by have := hb.size; (try simp at this); omega
  clear hb
  go_wp2_with fail
  go_ret
  exact ⟨by rw [eK.out]; try rfl, HB1.out⟩
end Go.Proofs.Ytmjfkjdfmpileaa.M
end
section
set_option linter.unusedVariables false
set_option linter.unusedSimpArgs false
namespace Go.Proofs.Ytmjfkjdfmpileaa.M
open Go.RowKit
/-- values that read the same so long as nothing below hi turns -/
def Rv (lo hi : Nat) (w : World) (ts : List T) (vs : List Value) : Prop := hi ≤ w.heap.size ∧ reps w ts vs ∧ ∀ w2, Below hi w w2 → reps w2 ts vs
section
variable {lo hi : Nat} {w w' : World} {ts : List T} {vs : List Value}
theorem Rv.reps (h : Rv lo hi w ts vs) : M.reps w ts vs := h.2.1
theorem Rv.go (h : Rv lo hi w ts vs) (hb : Below hi w w') : Rv lo hi w' ts vs := ⟨Nat.le_trans h.1 hb.size, h.2.2 w' hb, fun w2 h2 => h.2.2 w2 (hb.trans h2)⟩
theorem Rv.below (h : Rv lo hi w ts vs) (hb : Below w.heap.size w w') : Rv lo hi w' ts vs := h.go (hb.mono h.1)
theorem Rv.far {a b : Nat} (h : Rv lo hi w ts vs) (hf : Far a b w w') (hd : hi ≤ a ∨ b = 0) : Rv lo hi w' ts vs :=
  h.go ⟨hf.os, hf.tape, hf.output, hf.size, fun k hk => hf.block k (Nat.lt_of_lt_of_le hk h.1) (by omega)⟩
theorem Rv.mk (h : M.reps w ts vs) : Rv lo w.heap.size w ts vs := ⟨Nat.le_refl _, h, fun w2 h2 => h.below h2⟩
end
theorem markStringS_iv (xs : List ByteArray) (lo hi k : Nat) (n : Int) (v : Value) (w : World) (hn : n = k) (h : Iv lo hi w [strsT 9 xs] [v]) (h0 : 1 ≤ k) (hk : k + cnt (strsT 9 xs) ≤ 1000000000) :
    Calls Try.prog 29 #[v, .int .i64 n] w fun e w' => e = .returned (.int .i64 ((k + cnt (strsT 9 xs) : Nat) : Int)) ∧ Iv lo hi w' [mrk (strsT 9 xs) k] [v] ∧ Far lo hi w w' := by
  obtain ⟨F, o, d, l⟩ := h.one
  refine (markStringS_calls xs v F k n w hn o d h0 hk).mono ?_
  rintro e w' ⟨rfl, ⟨F', o', d', s⟩, hm⟩
  exact ⟨rfl, Iv.mk o' d' (fun b hb => l b (s b hb)), hm.far l⟩
theorem heldStringS_iv (xs : List ByteArray) (lo hi k : Nat) (n : Int) (v : Value) (w : World) (hn : n = k) (h : Iv lo hi w [mrk (strsT 9 xs) k] [v]) (h0 : 1 ≤ k) (hk : k + cnt (strsT 9 xs) ≤ 1000000000) :
    Calls Try.prog 68 #[v, .int .i64 n] w fun e w' => e = .returned (.int .i64 ((k + cnt (strsT 9 xs) : Nat) : Int)) ∧ Below w.heap.size w w' := by
  obtain ⟨F, o, d, l⟩ := h.one
  refine (heldStringS_calls xs v F k n w hn o h0 hk).mono ?_
  rintro e w' ⟨rfl, hb⟩
  exact ⟨rfl, hb⟩
end Go.Proofs.Ytmjfkjdfmpileaa.M
end
section
set_option linter.unusedVariables false
set_option linter.unusedSimpArgs false
namespace Go.Proofs.Ytmjfkjdfmpileaa.M
open Go.RowKit
def belowT (q : ByteArray) : ByteArray := ⟨#[98, 101, 108, 111, 119, 32]⟩ ++ q
def failed (x : Answer) : Bool := x.Fail
def failIx (xs : List Answer) : Option Nat := xs.findIdx? failed
def caseIs (t : ByteArray) (c : Case) : Bool := c.Text.toList == t.toList
def caseOf (cs : List Case) (t : ByteArray) : Option Case := cs.find? (caseIs t)
def onText (s : Step) (xs : List Answer) : ByteArray := (xs.getD s.On.toNat zAnswer).Text
def gotoS (s : Step) (xs : List Answer) : Int := if xs = [] then s.Else else match caseOf s.Cases (onText s xs) with | some c => c.Goto | none => s.Else
def followS (s : Step) (xs : List Answer) : Gone :=
  match failIx xs with
  | some i => if s.Fall < 0 then ⟨0, true, 0, belowT (s.Asks.getD i ⟨#[]⟩)⟩ else ⟨0, false, s.Fall, ⟨#[]⟩⟩
  | none => ⟨0, false, gotoS s xs, ⟨#[]⟩⟩
def badGone : Gone := ⟨1, false, 0, ⟨#[]⟩⟩
def textOk (x : Answer) : Bool := decide (x.Text.size ≤ 200)
def goOnPre (a : Action) (at_ : Int) (xs : List Answer) : Bool := actionOk a && inB at_ 0 (a.Steps.length - 1) && !(a.Steps.getD at_.toNat zStep).End && decide (xs.length = (a.Steps.getD at_.toNat zStep).Asks.length)
def goOn (a : Action) (at_ : Int) (xs : List Answer) : Gone :=
  if goOnPre a at_ xs = false then badGone else if xs.all textOk = false then badGone else followS (a.Steps.getD at_.toNat zStep) xs
/-- none failed before a place -/
def noFail (xs : List Answer) (k : Nat) : Prop := ∀ (i : Nat) (h : i < xs.length), i < k → xs[i].Fail = false
theorem noFail_zero (xs : List Answer) : noFail xs 0 := fun i _ h => absurd h (Nat.not_lt_zero _)
theorem noFail_succ {xs : List Answer} {k : Nat} (h : noFail xs k) (hk : k < xs.length) (hx : xs[k].Fail = false) : noFail xs (k + 1) := by
  intro i hi hik
  rcases Nat.lt_succ_iff_lt_or_eq.1 hik with hik | rfl
  · exact h i hi hik
  · exact hx
theorem failIx_at {xs : List Answer} {k : Nat} (h : noFail xs k) (hk : k < xs.length) (hx : xs[k].Fail = true) : failIx xs = some k := by
  unfold failIx
  rw [List.findIdx?_eq_some_iff_getElem]
  exact ⟨hk, hx, fun j hj => by have := h j (by omega) hj; simp [failed, this]⟩
theorem failIx_none {xs : List Answer} (h : noFail xs xs.length) : failIx xs = none := by
  unfold failIx
  rw [List.findIdx?_eq_none_iff]
  intro x hx
  obtain ⟨i, hi, rfl⟩ := List.getElem_of_mem hx
  exact h i hi hi
def noCase (t : ByteArray) (cs : List Case) (k : Nat) : Prop := ∀ (i : Nat) (h : i < cs.length), i < k → caseIs t cs[i] = false
theorem noCase_zero (t : ByteArray) (cs : List Case) : noCase t cs 0 := fun i _ h => absurd h (Nat.not_lt_zero _)
theorem noCase_succ {t : ByteArray} {cs : List Case} {k : Nat} (h : noCase t cs k) (hk : k < cs.length) (hx : caseIs t cs[k] = false) : noCase t cs (k + 1) := by
  intro i hi hik
  rcases Nat.lt_succ_iff_lt_or_eq.1 hik with hik | rfl
  · exact h i hi hik
  · exact hx
theorem caseOf_at {t : ByteArray} {cs : List Case} {k : Nat} (h : noCase t cs k) (hk : k < cs.length) (hx : caseIs t cs[k] = true) : caseOf cs t = some cs[k] := by
  unfold caseOf
  rw [List.find?_eq_some_iff_getElem]
  exact ⟨hx, k, hk, rfl, fun j hj => by have := h j (by omega) hj; simp [this]⟩
theorem caseOf_none {t : ByteArray} {cs : List Case} (h : noCase t cs cs.length) : caseOf cs t = none := by
  unfold caseOf
  rw [List.find?_eq_none]
  intro x hx
  obtain ⟨i, hi, rfl⟩ := List.getElem_of_mem hx
  simp [h i hi hi]
theorem follow_fall {s : Step} {xs : List Answer} {k : Nat} (h : noFail xs k) (hk : k < xs.length) (hx : xs[k].Fail = true) (hF : ¬s.Fall < 0) : followS s xs = ⟨0, false, s.Fall, ⟨#[]⟩⟩ := by
  unfold followS; rw [failIx_at h hk hx]; simp [hF]
theorem follow_over {s : Step} {xs : List Answer} {k : Nat} (h : noFail xs k) (hk : k < xs.length) (hx : xs[k].Fail = true) (hF : s.Fall < 0) (hl : k < s.Asks.length) : followS s xs = ⟨0, true, 0, belowT s.Asks[k]⟩ := by
  unfold followS; rw [failIx_at h hk hx]; simp [hF, List.getD_eq_getElem?_getD, hl]
theorem follow_else0 {s : Step} {xs : List Answer} (h : noFail xs xs.length) (hx : xs.length = 0) : followS s xs = ⟨0, false, s.Else, ⟨#[]⟩⟩ := by
  unfold followS; rw [failIx_none h]; simp [gotoS, List.eq_nil_of_length_eq_zero hx]
theorem follow_else {s : Step} {xs : List Answer} (h : noFail xs xs.length) (hc : noCase (onText s xs) s.Cases s.Cases.length) : followS s xs = ⟨0, false, s.Else, ⟨#[]⟩⟩ := by
  unfold followS; rw [failIx_none h]; unfold gotoS; rw [caseOf_none hc]; simp
theorem follow_goto {s : Step} {xs : List Answer} {k : Nat} (h : noFail xs xs.length) (hx : 0 < xs.length) (hc : noCase (onText s xs) s.Cases k) (hk : k < s.Cases.length) (hq : caseIs (onText s xs) s.Cases[k] = true) : followS s xs = ⟨0, false, s.Cases[k].Goto, ⟨#[]⟩⟩ := by
  have hne : xs ≠ [] := List.length_pos_iff.1 hx
  unfold followS; rw [failIx_none h]; unfold gotoS; rw [caseOf_at hc hk hq]; simp [hne]
theorem goOn_bad {a : Action} {at_ : Int} {xs : List Answer} (h : actionOk a = false) : goOn a at_ xs = badGone := by simp [goOn, goOnPre, h]
theorem goOn_out {a : Action} {at_ : Int} {xs : List Answer} (h : inB at_ 0 (a.Steps.length - 1) = false) : goOn a at_ xs = badGone := by simp [goOn, goOnPre, h]
theorem goOn_end {a : Action} {n : Nat} {xs : List Answer} (hn : n < a.Steps.length) (h : a.Steps[n].End = true) : goOn a n xs = badGone := by
  simp [goOn, goOnPre, List.getD_eq_getElem?_getD, hn, h]
theorem goOn_len {a : Action} {n : Nat} {xs : List Answer} (hn : n < a.Steps.length) (h : ¬xs.length = a.Steps[n].Asks.length) : goOn a n xs = badGone := by
  simp [goOn, goOnPre, List.getD_eq_getElem?_getD, hn, h]
theorem goOn_text {a : Action} {n : Nat} {xs : List Answer} (h : xs.all textOk = false) : goOn a n xs = badGone := by
  unfold goOn; rw [h]; simp
theorem goOn_yes {a : Action} {n : Nat} {xs : List Answer} (hn : n < a.Steps.length) (h1 : actionOk a = true) (h2 : inB n 0 (a.Steps.length - 1) = true) (h3 : a.Steps[n].End = false) (h4 : xs.length = a.Steps[n].Asks.length) (h5 : xs.all textOk = true) : goOn a n xs = followS a.Steps[n] xs := by
  unfold goOn; rw [h5]; simp [goOnPre, List.getD_eq_getElem?_getD, hn, h1, h2, h3, h4]
theorem nameOk_size {q : ByteArray} (h : nameOk q = true) : q.size ≤ 20 := by
  simp [nameOk, inB] at h; omega
/-- what a good action's step holds -/
theorem step_facts {a : Action} (h : actionOk a = true) {n : Nat} (hn : n < a.Steps.length) (hE : a.Steps[n].End = false) :
    preOk a.Steps[n] a.Steps.length = true ∧ namesOk a.Steps[n].Asks = true ∧ onOk a.Steps[n] = true := by
  simp only [actionOk, Bool.and_eq_true, List.all_eq_true] at h
  have h := h.2 _ (List.getElem_mem hn)
  simp only [stepOkN, stepOk, hE] at h
  simp only [Bool.false_eq_true, if_false, Bool.and_eq_true] at h
  exact ⟨h.1.1.1, h.1.1.2, h.1.2⟩
theorem step_asks {a : Action} (h : actionOk a = true) {n : Nat} (hn : n < a.Steps.length) (hE : a.Steps[n].End = false) : ∀ q ∈ a.Steps[n].Asks, q.size ≤ 1000000 := by
  intro q hq
  have h2 := (step_facts h hn hE).2.1
  simp only [namesOk, Bool.and_eq_true, List.all_eq_true] at h2
  have := nameOk_size (h2.1 q hq)
  omega
theorem step_on {a : Action} (h : actionOk a = true) {n : Nat} (hn : n < a.Steps.length) (hE : a.Steps[n].End = false) {l : Nat} (hl : l = a.Steps[n].Asks.length) : 0 < l → 0 ≤ a.Steps[n].On ∧ a.Steps[n].On < l := by
  intro h0
  have h3 := (step_facts h hn hE).2.2
  have hne : a.Steps[n].Asks.isEmpty = false := by
    cases hq : a.Steps[n].Asks with
    | nil => rw [hq] at hl; simp at hl; omega
    | cons _ _ => rfl
  simp [onOk, hne, inB] at h3
  omega
theorem step_fall {a : Action} (h : actionOk a = true) {n : Nat} (hn : n < a.Steps.length) (hE : a.Steps[n].End = false) : -1 ≤ a.Steps[n].Fall := by
  have h1 := (preOk_iff (step_facts h hn hE).1).2.2.2.2.2
  simp [inB] at h1
  omega
theorem textOk_no {xs : List Answer} {k : Nat} (hk : k < xs.length) (h : ¬xs[k].Text.size ≤ 200) : xs.all textOk = false := allTo_not hk (by simp [textOk]; omega)
def goneV (g : Gone) : Value := .agg #[.int .i64 g.Code, .bool g.Over, .int .i64 g.At, .string g.Text]
end Go.Proofs.Ytmjfkjdfmpileaa.M
end
section
set_option linter.unusedVariables false
set_option linter.unusedSimpArgs false
namespace Go.Proofs.Ytmjfkjdfmpileaa.M
open Go.RowKit
def nodeOf (xs : List Node) (q : ByteArray) : Node := (xs.find? (nmB q)).getD zNode
def actOf (W : Web) (q : ByteArray) : Action := (nodeOf W.Nodes q).Action
def stepIn (a : Action) (at_ : Int) : Step := a.Steps.getD at_.toNat zStep
def stepOf (W : Web) (r : Run) : Step := stepIn (actOf W r.Name) r.At
def rIs (q : ByteArray) (r : Run) : Bool := r.Name.toList == q.toList
def runOf (R : List Run) (q : ByteArray) : Option Run := R.find? (rIs q)
def noT (q : ByteArray) : ByteArray := ⟨#[110, 111, 32]⟩ ++ q
def runAns (o : Option Run) : Option Answer := match o with
  | none => none
  | some r => if r.Over then some ⟨r.Fail, r.Text⟩ else none
def answerOf (W : Web) (R : List Run) (q : ByteArray) : Option Answer := if hasN W.Nodes q then runAns (runOf R q) else some ⟨true, noT q⟩
def answersOf (W : Web) (R : List Run) : List ByteArray → Option (List Answer)
  | [] => some []
  | q :: qs => match answerOf W R q with
    | none => none
    | some x => match answersOf W R qs with
      | none => none
      | some xs => some (x :: xs)
def isReady (W : Web) (R : List Run) (r : Run) : Bool := !r.Over && (r.Visits == 0 || (answersOf W R (stepOf W r).Asks).isSome)
def readyR (W : Web) (R : List Run) : List Run := R.filter (isReady W R)
def readyL (W : Web) (R : List Run) : List ByteArray := (readyR W R).map Run.Name
def newRun (q : ByteArray) : Run := ⟨q, false, false, ⟨#[]⟩, 0, 0, []⟩
def insR (r : Run) : List Run → List Run
  | [] => [r]
  | x :: xs => if ltS r.Name x.Name then r :: x :: xs else x :: insR r xs
def want (W : Web) (R : List Run) (q : ByteArray) : List Run := if hasN W.Nodes q && (runOf R q).isNone then insR (newRun q) R else R
def wants (W : Web) (R : List Run) (qs : List ByteArray) : List Run := qs.foldl (want W) R
def rootsOk (l : List ByteArray) : Bool := inB l.length 1 10 && namesOk l
def begin_ (W : Web) (roots : List ByteArray) : List Run := wants W [] roots

theorem nmB_iff (q : ByteArray) (n : Node) : nmB q n = true ↔ n.Name = q := by
  unfold nmB; rw [ba_eq]
theorem rIs_iff (q : ByteArray) (r : Run) : rIs q r = true ↔ r.Name = q := by
  unfold rIs; rw [ba_eq]
theorem rIs_self (r : Run) : rIs r.Name r = true := (rIs_iff _ _).2 rfl
theorem rIs_ne {q : ByteArray} {r : Run} (h : r.Name ≠ q) : rIs q r = false := by
  rw [Bool.eq_false_iff]; exact fun k => h ((rIs_iff _ _).1 k)
theorem runOf_some {R : List Run} {q : ByteArray} {r : Run} (h : runOf R q = some r) : r ∈ R ∧ r.Name = q := by
  unfold runOf at h
  exact ⟨List.mem_of_find?_eq_some h, (rIs_iff _ _).1 (List.find?_some h)⟩
theorem runOf_none {R : List Run} {q : ByteArray} : runOf R q = none ↔ ∀ r ∈ R, r.Name ≠ q := by
  unfold runOf
  rw [List.find?_eq_none]
  exact ⟨fun h r hr e => h r hr ((rIs_iff _ _).2 e), fun h r hr e => h r hr ((rIs_iff _ _).1 e)⟩
theorem runOf_cons (x : Run) (R : List Run) (q : ByteArray) : runOf (x :: R) q = if x.Name = q then some x else runOf R q := by
  unfold runOf
  rw [List.find?_cons]
  by_cases h : x.Name = q
  · rw [(rIs_iff _ _).2 h, if_pos h]
  · rw [rIs_ne h, if_neg h]
def AscR (R : List Run) : Prop := Asc (R.map Run.Name)
theorem AscR.nil : AscR [] := List.Pairwise.nil
theorem AscR_cons {x : Run} {R : List Run} : AscR (x :: R) ↔ (∀ y ∈ R, ltS x.Name y.Name = true) ∧ AscR R := by
  unfold AscR Asc
  rw [List.map_cons, List.pairwise_cons]
  simp
theorem runOf_mem : ∀ {R : List Run} {r : Run}, AscR R → r ∈ R → runOf R r.Name = some r
  | x :: R, r, h, hr => by
    obtain ⟨h1, h2⟩ := AscR_cons.1 h
    rw [runOf_cons]
    rcases List.mem_cons.1 hr with rfl | hr
    · rw [if_pos rfl]
    · rw [if_neg (ltS_ne (h1 r hr)), runOf_mem h2 hr]
theorem runOf_lt {R : List Run} {x : ByteArray} (h : ∀ y ∈ R, ltS x y.Name = true) {q : ByteArray} (hq : ltS x q = false) : runOf R q = none := by
  rw [runOf_none]
  rintro r hr rfl
  rw [h r hr] at hq; cases hq
/-- lists of runs in order that tell the same of each name are the same -/
theorem runs_ext : ∀ {R S : List Run}, AscR R → AscR S → (∀ q, runOf R q = runOf S q) → R = S
  | [], [], _, _, _ => rfl
  | [], y :: S, _, _, h => by
    have := h y.Name
    rw [runOf_cons, if_pos rfl] at this
    simp [runOf] at this
  | x :: R, [], _, _, h => by
    have := h x.Name
    rw [runOf_cons, if_pos rfl] at this
    simp [runOf] at this
  | x :: R, y :: S, hR, hS, h => by
    obtain ⟨h1, h2⟩ := AscR_cons.1 hR
    obtain ⟨k1, k2⟩ := AscR_cons.1 hS
    have hxy : x.Name = y.Name := by
      by_cases e : x.Name = y.Name
      · exact e
      · exfalso
        have a := h x.Name
        have b := h y.Name
        rw [runOf_cons, if_pos rfl, runOf_cons, if_neg (Ne.symm e)] at a
        rw [runOf_cons, if_neg e, runOf_cons, if_pos rfl] at b
        have a := k1 x (runOf_some a.symm).1
        have b := h1 y (runOf_some b).1
        rw [ltS_asymm a] at b; cases b
    have hx : x = y := by
      have a := h x.Name
      rw [runOf_cons, if_pos rfl, runOf_cons, if_pos hxy.symm] at a
      exact Option.some.inj a
    subst hx
    rw [runs_ext h2 k2 (fun q => ?_)]
    by_cases e : x.Name = q
    · subst e
      rw [runOf_lt h1 (ltS_irr _), runOf_lt k1 (ltS_irr _)]
    · have := h q
      rwa [runOf_cons, if_neg e, runOf_cons, if_neg e] at this
theorem mem_insR {r x : Run} : ∀ {R : List Run}, x ∈ insR r R ↔ x = r ∨ x ∈ R
  | [] => by simp [insR]
  | y :: R => by
    unfold insR
    split
    · simp
    · rw [List.mem_cons, mem_insR, List.mem_cons]
      constructor
      · rintro (h | h | h) <;> simp [h]
      · rintro (h | h | h) <;> simp [h]
theorem insR_asc {r : Run} : ∀ {R : List Run}, AscR R → (∀ x ∈ R, x.Name ≠ r.Name) → AscR (insR r R)
  | [], _, _ => by unfold insR; exact AscR_cons.2 ⟨fun y hy => (by cases hy), AscR.nil⟩
  | y :: R, h, hn => by
    obtain ⟨h1, h2⟩ := AscR_cons.1 h
    unfold insR
    split
    · rename_i hlt
      refine AscR_cons.2 ⟨fun z hz => ?_, h⟩
      rcases List.mem_cons.1 hz with rfl | hz
      · exact hlt
      · exact ltS_trans hlt (h1 z hz)
    · rename_i hlt
      refine AscR_cons.2 ⟨fun z hz => ?_, insR_asc h2 (fun x hx => hn x (List.mem_cons_of_mem _ hx))⟩
      rcases mem_insR.1 hz with rfl | hz
      · cases hh : ltS y.Name z.Name with
        | true => rfl
        | false => exact absurd (ltS_tri hh (by simpa using hlt)) (hn y (List.mem_cons_self ..))
      · exact h1 z hz
theorem runOf_insR {r : Run} {q : ByteArray} : ∀ {R : List Run}, (∀ x ∈ R, x.Name ≠ r.Name) → runOf (insR r R) q = if r.Name = q then some r else runOf R q
  | [], _ => by unfold insR; rw [runOf_cons]
  | y :: R, hn => by
    unfold insR
    split
    · rw [runOf_cons]
    · rw [runOf_cons, runOf_insR (fun x hx => hn x (List.mem_cons_of_mem _ hx)), runOf_cons]
      by_cases e : y.Name = q
      · rw [if_pos e, if_pos e, if_neg (fun e2 => hn y (List.mem_cons_self ..) (e.trans e2.symm))]
      · rw [if_neg e, if_neg e]
theorem insR_length (r : Run) : ∀ (R : List Run), (insR r R).length = R.length + 1
  | [] => rfl
  | y :: R => by
    unfold insR
    split
    · simp
    · rw [List.length_cons, insR_length, List.length_cons]
/-- who is wanted -/
theorem want_has {W : Web} {R : List Run} {q : ByteArray} {r : Run} (h : runOf R q = some r) : want W R q = R := by
  unfold want; rw [h]; simp
theorem want_out {W : Web} {R : List Run} {q : ByteArray} (h : hasN W.Nodes q = false) : want W R q = R := by
  unfold want; rw [h]; simp
theorem want_new {W : Web} {R : List Run} {q : ByteArray} (h : hasN W.Nodes q = true) (h2 : runOf R q = none) : want W R q = insR (newRun q) R := by
  unfold want; rw [h, h2]; simp
theorem runOf_want (W : Web) (R : List Run) (q p : ByteArray) : runOf (want W R q) p = match runOf R p with
    | some r => some r
    | none => if p = q ∧ hasN W.Nodes q = true then some (newRun q) else none := by
  by_cases h : hasN W.Nodes q = true
  · cases h2 : runOf R q with
    | some r =>
      rw [want_has h2]
      cases h3 : runOf R p with
      | some x => rfl
      | none =>
        simp only
        rw [if_neg]
        rintro ⟨rfl, _⟩
        rw [h2] at h3; cases h3
    | none =>
      rw [want_new h h2, runOf_insR (fun x hx => runOf_none.1 h2 x hx)]
      by_cases e : q = p
      · subst e; rw [if_pos (show (newRun q).Name = q from rfl), h2]; simp [h]
      · rw [if_neg (show ¬(newRun q).Name = p from e)]
        cases h3 : runOf R p with
        | some x => rfl
        | none => simp only; rw [if_neg (fun k => e k.1.symm)]
  · have h := Bool.eq_false_iff.2 h
    rw [want_out h]
    cases h3 : runOf R p with
    | some x => rfl
    | none => simp only; rw [if_neg (fun k => by rw [h] at k; exact absurd k.2 (by simp))]
theorem want_asc {W : Web} {R : List Run} {q : ByteArray} (h : AscR R) : AscR (want W R q) := by
  unfold want
  split
  · rename_i h2
    simp only [Bool.and_eq_true, Option.isNone_iff_eq_none] at h2
    exact insR_asc h (fun x hx => runOf_none.1 h2.2 x hx)
  · exact h
theorem mem_want {W : Web} {R : List Run} {q : ByteArray} {x : Run} (h : x ∈ want W R q) : x ∈ R ∨ (x = newRun q ∧ hasN W.Nodes q = true) := by
  unfold want at h
  split at h
  · rename_i h2
    simp only [Bool.and_eq_true, Option.isNone_iff_eq_none] at h2
    rcases mem_insR.1 h with h | h
    · exact .inr ⟨h, h2.1⟩
    · exact .inl h
  · exact .inl h
theorem runOf_wants (W : Web) (p : ByteArray) : ∀ (qs : List ByteArray) (R : List Run), runOf (wants W R qs) p = match runOf R p with
    | some r => some r
    | none => if p ∈ qs ∧ hasN W.Nodes p = true then some (newRun p) else none
  | [], R => by
    simp only [wants, List.foldl_nil]
    cases runOf R p <;> simp
  | q :: qs, R => by
    have ih := runOf_wants W p qs (want W R q)
    simp only [wants, List.foldl_cons] at ih ⊢
    rw [ih, runOf_want]
    cases h : runOf R p with
    | some r => rfl
    | none =>
      simp only
      by_cases e : p = q
      · subst e
        by_cases hh : hasN W.Nodes p = true
        · simp [hh]
        · simp [hh]
      · simp [e]
theorem wants_asc {W : Web} : ∀ (qs : List ByteArray) {R : List Run}, AscR R → AscR (wants W R qs)
  | [], _, h => h
  | q :: qs, R, h => wants_asc qs (R := want W R q) (want_asc h)
theorem mem_wants {W : Web} {x : Run} : ∀ (qs : List ByteArray) {R : List Run}, x ∈ wants W R qs → x ∈ R ∨ ∃ q ∈ qs, x = newRun q ∧ hasN W.Nodes q = true
  | [], R, h => .inl h
  | q :: qs, R, h => by
    rcases mem_wants qs (R := want W R q) h with h | ⟨p, hp, h1, h2⟩
    · rcases mem_want h with h | ⟨h1, h2⟩
      · exact .inl h
      · exact .inr ⟨q, List.mem_cons_self .., h1, h2⟩
    · exact .inr ⟨p, List.mem_cons_of_mem _ hp, h1, h2⟩
def setR (r : Run) (R : List Run) : List Run := R.map fun x => if rIs r.Name x then r else x
/-- the places of what is set -/
theorem mem_setR {x r : Run} {R : List Run} (h : x ∈ setR r R) : x = r ∨ (x ∈ R ∧ x.Name ≠ r.Name) := by
  unfold setR at h
  obtain ⟨y, hy, rfl⟩ := List.mem_map.1 h
  by_cases e : y.Name = r.Name
  · rw [(rIs_iff r.Name y).2 e]; exact .inl rfl
  · rw [rIs_ne e]; exact .inr ⟨hy, e⟩
theorem setR_names (r : Run) (R : List Run) : (setR r R).map Run.Name = R.map Run.Name := by
  unfold setR
  rw [List.map_map]
  apply List.map_congr_left
  intro y hy
  by_cases e : y.Name = r.Name
  · simp [(rIs_iff r.Name y).2 e, e]
  · simp [rIs_ne e]
theorem setR_asc {r : Run} {R : List Run} (h : AscR R) : AscR (setR r R) := by unfold AscR; rw [setR_names]; exact h
theorem runOf_setR (r : Run) (q : ByteArray) : ∀ (R : List Run), runOf (setR r R) q = if q = r.Name then (runOf R q).map (fun _ => r) else runOf R q
  | [] => by simp [setR, runOf]
  | x :: R => by
    have ih := runOf_setR r q R
    unfold setR at ih ⊢
    rw [List.map_cons, runOf_cons, ih, runOf_cons]
    by_cases e : x.Name = r.Name
    · rw [(rIs_iff r.Name x).2 e]
      simp only [if_true]
      by_cases e2 : q = r.Name
      · rw [if_pos e2.symm, if_pos e2, if_pos (e.trans e2.symm)]; rfl
      · rw [if_neg (fun k => e2 k.symm), if_neg e2, if_neg e2, if_neg (fun k => e2 (k.symm.trans e))]
    · rw [rIs_ne e]
      simp only [Bool.false_eq_true, if_false]
      by_cases e2 : q = r.Name
      · rw [if_pos e2, if_pos e2]
        by_cases e3 : x.Name = q
        · exact absurd (e3.trans e2) e
        · rw [if_neg e3, if_neg e3]
      · rw [if_neg e2, if_neg e2]
theorem AscR.nodup {R : List Run} (h : AscR R) : (R.map Run.Name).Nodup := List.Pairwise.imp (fun h => ltS_ne h) h
end Go.Proofs.Ytmjfkjdfmpileaa.M
end
section
set_option linter.unusedVariables false
set_option linter.unusedSimpArgs false
namespace Go.Proofs.Ytmjfkjdfmpileaa.M
open Go.RowKit
def putA (r : Run) (st : List Run × Bool) (x : Run) : List Run × Bool := if (!st.2 && !ltS x.Name r.Name) = true then (st.1 ++ [r], true) else st
def putB (r : Run) (st : List Run × Bool) (x : Run) : List Run × Bool := if rIs r.Name x then st else (st.1 ++ [x], st.2)
def putS (r : Run) (st : List Run × Bool) (x : Run) : List Run × Bool := putB r (putA r st x) x
def putK (R : List Run) (r : Run) (k : Nat) : List Run × Bool := (R.take k).foldl (putS r) ([], false)
def putL (R : List Run) (r : Run) : List Run := if (putK R r R.length).2 then (putK R r R.length).1 else (putK R r R.length).1 ++ [r]
theorem putK_zero (R : List Run) (r : Run) : putK R r 0 = ([], false) := rfl
theorem putK_succ {R : List Run} {r : Run} {k : Nat} (h : k < R.length) : putK R r (k + 1) = putS r (putK R r k) R[k] := by
  unfold putK; rw [List.take_succ_eq_append_getElem h, List.foldl_append]; rfl
theorem putS_len (r : Run) (st : List Run × Bool) (x : Run) : (putS r st x).1.length ≤ st.1.length + 2 := by
  unfold putS putB putA
  split <;> split <;> simp
theorem putK_len (R : List Run) (r : Run) : ∀ k, (putK R r k).1.length ≤ 2 * k
  | 0 => by simp [putK_zero]
  | k + 1 => by
    rcases Nat.lt_or_ge k R.length with h | h
    · rw [putK_succ h]
      have := putS_len r (putK R r k) R[k]
      have := putK_len R r k
      omega
    · have e : putK R r (k + 1) = putK R r k := by unfold putK; rw [List.take_of_length_le (by omega), List.take_of_length_le (by omega)]
      rw [e]; have := putK_len R r k; omega
/-- all of it at once, in order -/
theorem put_fold (r : Run) : ∀ (R : List Run) (acc : List Run) (b : Bool), AscR R → (b = true → ∀ x ∈ R, ltS x.Name r.Name = false ∧ x.Name ≠ r.Name) →
    (let st := R.foldl (putS r) (acc, b); if st.2 then st.1 else st.1 ++ [r]) = acc ++ (if b then R else match runOf R r.Name with
      | some _ => setR r R
      | none => insR r R)
  | [], acc, b, _, _ => by cases b <;> simp [runOf, insR]
  | x :: R, acc, b, h, hb => by
    obtain ⟨h1, h2⟩ := AscR_cons.1 h
    rw [List.foldl_cons]
    cases b with
    | true =>
      have hx := hb rfl
      have e1 : putS r (acc, true) x = (acc ++ [x], true) := by
        unfold putS putA putB
        simp [rIs_ne (hx x (List.mem_cons_self ..)).2]
      rw [e1, put_fold r R (acc ++ [x]) true h2 (fun _ y hy => hx y (List.mem_cons_of_mem _ hy))]
      simp
    | false =>
      by_cases hlt : ltS x.Name r.Name = true
      · have hne : x.Name ≠ r.Name := ltS_ne hlt
        have e1 : putS r (acc, false) x = (acc ++ [x], false) := by
          unfold putS putA putB
          simp [hlt, rIs_ne hne]
        rw [e1, put_fold r R (acc ++ [x]) false h2 (fun h => by cases h), runOf_cons, if_neg hne]
        simp only [Bool.false_eq_true, if_false, List.append_assoc, List.singleton_append, List.append_cancel_left_eq]
        cases hr : runOf R r.Name with
        | some y =>
          simp only [setR, List.map_cons, rIs_ne hne]
          simp
        | none =>
          simp only [insR]
          rw [ltS_asymm hlt]; simp
      · have hlt := Bool.eq_false_iff.2 hlt
        have hbig : ∀ y ∈ R, ltS y.Name r.Name = false ∧ y.Name ≠ r.Name := by
          intro y hy
          have hxy := h1 y hy
          refine ⟨?_, fun e => ?_⟩
          · cases hh : ltS y.Name r.Name with
            | false => rfl
            | true => rw [ltS_trans hxy hh] at hlt; cases hlt
          · rw [e, hlt] at hxy; cases hxy
        by_cases hn : x.Name = r.Name
        · have e1 : putS r (acc, false) x = (acc ++ [r], true) := by
            unfold putS putA putB
            simp [hlt, (rIs_iff _ _).2 hn]
          rw [e1, put_fold r R (acc ++ [r]) true h2 (fun _ => hbig), runOf_cons, if_pos hn]
          simp only [if_true, Bool.false_eq_true, if_false, List.append_assoc, List.singleton_append, List.append_cancel_left_eq, setR, List.map_cons, (rIs_iff _ _).2 hn]
          congr 1
          conv => lhs; rw [← List.map_id R]
          apply List.map_congr_left
          intro y hy
          rw [rIs_ne (hbig y hy).2]; rfl
        · have e1 : putS r (acc, false) x = (acc ++ [r] ++ [x], true) := by
            unfold putS putA putB
            simp [hlt, rIs_ne hn]
          rw [e1, put_fold r R (acc ++ [r] ++ [x]) true h2 (fun _ => hbig), runOf_cons, if_neg hn]
          have hnone : runOf R r.Name = none := runOf_none.2 (fun y hy => (hbig y hy).2)
          rw [hnone]
          simp only [insR]
          have hrx : ltS r.Name x.Name = true := by
            cases hh : ltS r.Name x.Name with
            | true => rfl
            | false => exact absurd (ltS_tri hlt hh) hn
          rw [hrx]; simp
theorem putL_eq {R : List Run} (h : AscR R) (r : Run) : putL R r = match runOf R r.Name with
    | some _ => setR r R
    | none => insR r R := by
  have := put_fold r R [] false h (fun h => by cases h)
  simp only [Bool.false_eq_true, if_false, List.nil_append] at this
  rw [← this]
  unfold putL putK
  rw [List.take_length]
/-- runs in whatever order, put in order -/
def sortR (l : List Run) : List Run := l.foldl putL []
theorem putL_asc {R : List Run} (h : AscR R) (r : Run) : AscR (putL R r) := by
  rw [putL_eq h]
  cases hr : runOf R r.Name with
  | some _ => exact setR_asc h
  | none => exact insR_asc h (fun x hx => runOf_none.1 hr x hx)
theorem runOf_putL {R : List Run} (h : AscR R) (r : Run) (q : ByteArray) : runOf (putL R r) q = if q = r.Name then some r else runOf R q := by
  rw [putL_eq h]
  cases hr : runOf R r.Name with
  | some y =>
    rw [runOf_setR]
    by_cases e : q = r.Name
    · rw [if_pos e, if_pos e, e, hr]; rfl
    · rw [if_neg e, if_neg e]
  | none =>
    rw [runOf_insR (fun x hx => runOf_none.1 hr x hx)]
    by_cases e : q = r.Name
    · rw [if_pos e.symm, if_pos e]
    · rw [if_neg (fun k => e k.symm), if_neg e]
theorem sort_fold : ∀ (l R : List Run), AscR R → AscR (l.foldl putL R) ∧ ∀ q, (l.map Run.Name).Nodup → runOf (l.foldl putL R) q = match runOf l q with
    | some r => some r
    | none => runOf R q
  | [], R, h => ⟨h, fun q _ => rfl⟩
  | r :: l, R, h => by
    obtain ⟨h1, h2⟩ := sort_fold l (putL R r) (putL_asc h r)
    refine ⟨h1, fun q hn => ?_⟩
    rw [List.map_cons, List.nodup_cons] at hn
    rw [List.foldl_cons, h2 q hn.2, runOf_cons]
    by_cases e : r.Name = q
    · have hnone : runOf l q = none := runOf_none.2 (fun x hx hxq => hn.1 (by rw [e, ← hxq]; exact List.mem_map.2 ⟨x, hx, rfl⟩))
      rw [hnone, if_pos e]
      simp only
      rw [runOf_putL h, if_pos e.symm]
    · rw [if_neg e]
      cases hl : runOf l q with
      | some x => rfl
      | none => simp only; rw [runOf_putL h, if_neg (fun k => e k.symm)]
theorem sortR_asc (l : List Run) : AscR (sortR l) := (sort_fold l [] AscR.nil).1
theorem runOf_sortR {l : List Run} (hn : (l.map Run.Name).Nodup) (q : ByteArray) : runOf (sortR l) q = runOf l q := by
  unfold sortR
  rw [(sort_fold l [] AscR.nil).2 q hn]
  cases runOf l q <;> rfl
/-- what is wanted, in the order in which it was asked for -/
def wantU (W : Web) (l : List Run) (q : ByteArray) : List Run := if hasN W.Nodes q && (runOf l q).isNone then l ++ [newRun q] else l
def wantsU (W : Web) (l : List Run) (qs : List ByteArray) : List Run := qs.foldl (wantU W) l
theorem runOf_append (l m : List Run) (q : ByteArray) : runOf (l ++ m) q = match runOf l q with
    | some r => some r
    | none => runOf m q := by
  unfold runOf
  rw [List.find?_append]
  cases l.find? (rIs q) <;> rfl
theorem runOf_one (r : Run) (q : ByteArray) : runOf [r] q = if r.Name = q then some r else none := by
  rw [runOf_cons]; rfl
theorem runOf_wantU (W : Web) (l : List Run) (q p : ByteArray) : runOf (wantU W l q) p = match runOf l p with
    | some r => some r
    | none => if p = q ∧ hasN W.Nodes q = true then some (newRun q) else none := by
  unfold wantU
  cases h1 : hasN W.Nodes q with
  | false => simp only [Bool.false_and, Bool.false_eq_true, if_false, and_false]; cases runOf l p <;> rfl
  | true =>
    cases h2 : runOf l q with
    | some r =>
      simp only [Option.isNone_some, Bool.and_false, Bool.false_eq_true, if_false, and_true]
      cases h3 : runOf l p with
      | some x => rfl
      | none => simp only; rw [if_neg (fun e => by rw [e, h2] at h3; cases h3)]
    | none =>
      simp only [Option.isNone_none, Bool.and_true, if_true, and_true]
      rw [runOf_append, runOf_one]
      cases h3 : runOf l p with
      | some x => rfl
      | none =>
        by_cases e : q = p
        · simp [newRun, e]
        · simp [newRun, e, Ne.symm e]
theorem wantU_nodup {W : Web} {l : List Run} {q : ByteArray} (h : (l.map Run.Name).Nodup) : ((wantU W l q).map Run.Name).Nodup := by
  unfold wantU
  split
  · rename_i h2
    simp only [Bool.and_eq_true, Option.isNone_iff_eq_none] at h2
    rw [List.map_append]
    refine List.nodup_append.2 ⟨h, by simp, fun a ha b hb e => ?_⟩
    simp only [List.map_cons, List.map_nil, List.mem_singleton, newRun] at hb
    obtain ⟨x, hx, rfl⟩ := List.mem_map.1 ha
    exact runOf_none.1 h2.2 x hx (e.trans hb)
  · exact h
theorem wantsU_all (W : Web) : ∀ (qs : List ByteArray) (l : List Run), (l.map Run.Name).Nodup → ((wantsU W l qs).map Run.Name).Nodup ∧ ∀ p, runOf (wantsU W l qs) p = match runOf l p with
    | some r => some r
    | none => if p ∈ qs ∧ hasN W.Nodes p = true then some (newRun p) else none
  | [], l, h => ⟨h, fun p => by simp only [wantsU, List.foldl_nil]; cases runOf l p <;> simp⟩
  | q :: qs, l, h => by
    obtain ⟨h1, h2⟩ := wantsU_all W qs (wantU W l q) (wantU_nodup h)
    refine ⟨h1, fun p => ?_⟩
    simp only [wantsU, List.foldl_cons] at h2 ⊢
    rw [h2 p, runOf_wantU]
    cases h3 : runOf l p with
    | some r => rfl
    | none =>
      simp only
      by_cases e : p = q
      · subst e
        by_cases hh : hasN W.Nodes p = true
        · simp [hh]
        · simp [hh]
      · simp [e]
/-- asked for in order or put in order behind: the same -/
theorem sort_wantsU {W : Web} {R l : List Run} (hR : AscR R) (hl : (l.map Run.Name).Nodup) (he : ∀ q, runOf l q = runOf R q) (qs : List ByteArray) : sortR (wantsU W l qs) = wants W R qs := by
  obtain ⟨h1, h2⟩ := wantsU_all W qs l hl
  refine runs_ext (sortR_asc _) (wants_asc qs hR) (fun q => ?_)
  rw [runOf_sortR h1, h2, runOf_wants, he] <;> (cases runOf R q <;> rfl)
theorem sort_begin (W : Web) (roots : List ByteArray) : sortR (wantsU W [] roots) = begin_ W roots := sort_wantsU AscR.nil (by simp) (fun q => rfl) roots
end Go.Proofs.Ytmjfkjdfmpileaa.M
end
section
set_option linter.unusedVariables false
set_option linter.unusedSimpArgs false
namespace Go.Proofs.Ytmjfkjdfmpileaa.M
open Go.RowKit
open Go.ChangeMaps (setBlock heap_setBlock_same heap_setBlock_other)
open Go.MapKept (Stamped)
def strP (p : ByteArray × Value) : Value × Value := (.string p.1, p.2)
def entP (x : MapEntry) : Value × Value := (x.key, x.val)
def MapAt (w : World) (b : Nat) (C : List (ByteArray × Value)) : Prop := ∃ es clock, w.heap[b]? = some (.map es clock) ∧ Stamped es clock ∧ es.toList.map entP = C.map strP
def lookC (C : List (ByteArray × Value)) (q : ByteArray) : Option Value := (C.find? fun p => decide (p.1 = q)).map (·.2)
def putC (C : List (ByteArray × Value)) (q : ByteArray) (v : Value) : List (ByteArray × Value) := if (lookC C q).isSome then C.map (fun p => if p.1 = q then (p.1, v) else p) else C ++ [(q, v)]
def delC (C : List (ByteArray × Value)) (q : ByteArray) : List (ByteArray × Value) := C.filter fun p => decide (p.1 ≠ q)
theorem lookC_nil (q : ByteArray) : lookC [] q = none := rfl
theorem lookC_cons (p : ByteArray × Value) (C : List (ByteArray × Value)) (q : ByteArray) : lookC (p :: C) q = if p.1 = q then some p.2 else lookC C q := by
  unfold lookC
  rw [List.find?_cons]
  by_cases h : p.1 = q <;> simp [h]
theorem lookC_some {C : List (ByteArray × Value)} {q : ByteArray} {v : Value} (h : lookC C q = some v) : (q, v) ∈ C := by
  unfold lookC at h
  cases hf : C.find? (fun p => decide (p.1 = q)) with
  | none => rw [hf] at h; cases h
  | some p =>
    rw [hf] at h
    simp only [Option.map_some, Option.some.injEq] at h
    have h1 := List.find?_some hf
    have h2 := List.mem_of_find?_eq_some hf
    simp only [decide_eq_true_eq] at h1
    rw [← h1, ← h]; exact h2
theorem lookC_none {C : List (ByteArray × Value)} {q : ByteArray} : lookC C q = none ↔ ∀ p ∈ C, p.1 ≠ q := by
  unfold lookC
  rw [Option.map_eq_none_iff, List.find?_eq_none]
  simp
theorem lookC_mem : ∀ {C : List (ByteArray × Value)} {q : ByteArray} {v : Value}, (C.map (·.1)).Nodup → (q, v) ∈ C → lookC C q = some v
  | p :: C, q, v, hn, h => by
    rw [List.map_cons, List.nodup_cons] at hn
    rw [lookC_cons]
    rcases List.mem_cons.1 h with rfl | h
    · simp
    · rw [if_neg (fun e => hn.1 (by rw [e]; exact List.mem_map.2 ⟨_, h, rfl⟩)), lookC_mem hn.2 h]
theorem MapAt.nodup {w : World} {b : Nat} {C : List (ByteArray × Value)} (h : MapAt w b C) : (C.map (·.1)).Nodup := by
  obtain ⟨es, clock, _, hs, he⟩ := h
  have h1 := hs.2.2
  have e : es.toList.map (·.key) = C.map (fun p => Value.string p.1) := by
    have := congrArg (List.map Prod.fst) he
    rw [List.map_map, List.map_map] at this
    exact this
  rw [e] at h1
  have : (C.map fun p => Value.string p.1) = (C.map (·.1)).map Value.string := by rw [List.map_map]; rfl
  rw [this] at h1
  exact (List.pairwise_map.1 h1).imp (fun h e => h (congrArg _ e))
theorem MapAt.lt {w : World} {b : Nat} {C : List (ByteArray × Value)} (h : MapAt w b C) : b < w.heap.size := by
  obtain ⟨es, clock, hb, _⟩ := h
  exact (Array.getElem?_eq_some_iff.1 hb).1
theorem MapAt.move {w w' : World} {b : Nat} {C : List (ByteArray × Value)} (h : MapAt w b C) (hm : w'.heap[b]? = w.heap[b]?) : MapAt w' b C := by
  obtain ⟨es, clock, hb, hs⟩ := h
  exact ⟨es, clock, hm.trans hb, hs⟩
theorem MapAt.new (w : World) : MapAt (w.alloc (.map #[] 0)) w.heap.size [] := ⟨#[], 0, heap_alloc_new _ _, MapKept.stamped_empty 0, rfl⟩
section
variable {Pg : Program} {w : World} {b : Nat} {C : List (ByteArray × Value)}
theorem findNow_str (q : ByteArray) : ∀ (es : List MapEntry) (C : List (ByteArray × Value)) (i : Nat), es.map entP = C.map strP →
    (lookC C q = none ∧ Instr.findNow .string (.string q) es i = some none ∧ ∀ x ∈ es, x.key ≠ .string q) ∨
    ∃ j e v, lookC C q = some v ∧ Instr.findNow .string (.string q) es i = some (some (i + j, v)) ∧ es[j]? = some e ∧ e.key = .string q ∧ e.val = v ∧ ∀ k, k < j → ∀ x, es[k]? = some x → x.key ≠ .string q
  | [], C, i, h => by
    have : C = [] := by simpa using h.symm
    subst this
    exact .inl ⟨rfl, rfl, fun x hx => by cases hx⟩
  | e :: es, [], i, h => by simp at h
  | e :: es, p :: C, i, h => by
    simp only [List.map_cons, List.cons.injEq] at h
    obtain ⟨h1, h2⟩ := h
    have hk : e.key = .string p.1 := congrArg Prod.fst h1
    have hv : e.val = p.2 := congrArg Prod.snd h1
    rw [lookC_cons]
    by_cases hp : p.1 = q
    · right
      refine ⟨0, e, p.2, by rw [if_pos hp], ?_, rfl, by rw [hk, hp], hv, fun k hk => absurd hk (Nat.not_lt_zero _)⟩
      unfold Instr.findNow
      rw [hk]
      simp [Instr.sameNow, hp, hv]
    · rw [if_neg hp]
      have hf : Instr.findNow .string (.string q) (e :: es) i = Instr.findNow .string (.string q) es (i + 1) := by
        conv => lhs; unfold Instr.findNow
        rw [hk]
        have : (q == p.1) = false := by rw [beq_eq_false_iff_ne]; exact fun e => hp e.symm
        simp [Instr.sameNow, this]
      rcases findNow_str q es C (i + 1) h2 with ⟨g1, g2, g3⟩ | ⟨j, e', v, g1, g2, g3, g4, g5, g6⟩
      · left
        refine ⟨g1, by rw [hf, g2], fun x hx => ?_⟩
        rcases List.mem_cons.1 hx with rfl | hx
        · rw [hk]; intro e; cases e; exact hp rfl
        · exact g3 x hx
      · right
        refine ⟨j + 1, e', v, g1, by rw [hf, g2, Nat.add_assoc, Nat.add_comm 1 j], g3, g4, g5, fun k hkj x hx => ?_⟩
        cases k with
        | zero => simp at hx; subst hx; rw [hk]; intro e; cases e; exact hp rfl
        | succ k => exact g6 k (by omega) x (by simpa using hx)
theorem run_find_none {kt : TypeId} (hk : Pg.underlying kt = some .string) {es : List MapEntry} {q : ByteArray} (h : Instr.findNow .string (.string q) es 0 = some none) : (Instr.findKey kt (.string q) es).run Pg w = .ok none w := by
  simp [Instr.findKey, run_underlying hk, h]
theorem run_find_some {kt : TypeId} (hk : Pg.underlying kt = some .string) {es : List MapEntry} {q : ByteArray} {r : Nat × Value} (h : Instr.findNow .string (.string q) es 0 = some (some r)) : (Instr.findKey kt (.string q) es).run Pg w = .ok (some r) w := by
  simp [Instr.findKey, run_underlying hk, h]
theorem run_check_str {kt : TypeId} (hk : Pg.underlying kt = some .string) (e : Bool) (q : ByteArray) : (Instr.checkKey e 10000 kt (.string q)).run Pg w = .ok () w := MapKept.run_checkKey hk (show MapKept.IsKey .string (.string q) from trivial) e 9999
/-- m[q] and v, ok := m[q] -/
theorem MapAt.look (h : MapAt w b C) {t kt et : TypeId} (ht : Pg.underlying t = some (.map kt et)) (hk : Pg.underlying kt = some .string) {z : Value} (hz : (zeroValue et).run Pg w = .ok z w) (q : ByteArray) (c : Bool) :
    (Instr.lookup t (.map (some b)) (.string q) c).run Pg w = .ok (if c then .tuple #[(lookC C q).getD z, .bool (lookC C q).isSome] else (lookC C q).getD z) w := by
  obtain ⟨es, clock, hb, hs, he⟩ := h
  rcases findNow_str q es.toList C 0 he with ⟨g1, g2, g3⟩ | ⟨j, e, v, g1, g2, g3, g4, g5, g6⟩
  · rw [g1]
    simp [Instr.lookup, run_underlying ht, MapKept.run_getObj_map hb, run_check_str hk, run_find_none hk g2, hz, Result.andThen]
  · rw [g1]
    simp [Instr.lookup, run_underlying ht, MapKept.run_getObj_map hb, run_check_str hk, run_find_some hk g2, Result.andThen]
/-- another map's block has turned, nothing else -/
structure OnlyB (b : Nat) (w w' : World) : Prop where
  os : w'.os = w.os
  tape : w'.tape = w.tape
  output : w'.output = w.output
  size : w'.heap.size = w.heap.size
  block : ∀ k, k ≠ b → w'.heap[k]? = w.heap[k]?
theorem onlyB_set {es : Array MapEntry} {clock : Nat} (hb : w.heap[b]? = some (.map es clock)) (o : Obj) : OnlyB b w (setBlock w b o) := ⟨rfl, rfl, rfl, by simp [setBlock], fun k hk => heap_setBlock_other hb o hk⟩
theorem map_modify (f : MapEntry → MapEntry) (es : Array MapEntry) (j : Nat) : (es.modify j f).toList = es.toList.modify j f := by simp
theorem mod_map : ∀ (es : List MapEntry) (C : List (ByteArray × Value)) (j : Nat) (q : ByteArray) (v : Value) (e : MapEntry), es.map entP = C.map strP → (C.map (·.1)).Nodup → es[j]? = some e → e.key = .string q →
    (es.modify j fun e => { e with key := .string q, val := v }).map entP = (C.map fun p => if p.1 = q then (p.1, v) else p).map strP
  | [], _, _, _, _, _, _, _, h, _ => by simp at h
  | x :: es, [], _, _, _, _, h, _, _, _ => by simp at h
  | x :: es, p :: C, 0, q, v, e, h, hn, hj, hk => by
    simp only [List.map_cons, List.cons.injEq] at h
    rw [List.map_cons, List.nodup_cons] at hn
    simp at hj; subst hj
    have hp : p.1 = q := by
      have := congrArg Prod.fst h.1
      simp only [entP, strP] at this
      rw [hk] at this; cases this; rfl
    have hrest : (C.map fun p => if p.1 = q then (p.1, v) else p) = C := by
      conv => rhs; rw [← List.map_id C]
      apply List.map_congr_left
      intro r hr
      rw [if_neg (fun e => hn.1 (by rw [hp, ← e]; exact List.mem_map.2 ⟨r, hr, rfl⟩))]; rfl
    rw [List.map_cons, hrest, if_pos hp, List.map_cons, ← h.2]
    simp [entP, strP, hp]
  | x :: es, p :: C, j + 1, q, v, e, h, hn, hj, hk => by
    simp only [List.map_cons, List.cons.injEq] at h
    rw [List.map_cons, List.nodup_cons] at hn
    have hj' : es[j]? = some e := by simpa using hj
    have hne : p.1 ≠ q := by
      rintro rfl
      have hm : e ∈ es := List.mem_of_getElem? hj'
      have : entP e ∈ C.map strP := by rw [← h.2]; exact List.mem_map.2 ⟨e, hm, rfl⟩
      obtain ⟨r, hr, e1⟩ := List.mem_map.1 this
      have := congrArg Prod.fst e1
      simp only [entP, strP] at this
      rw [hk] at this
      exact hn.1 (List.mem_map.2 ⟨r, hr, Value.string.inj this⟩)
    have ih := mod_map es C j q v e h.2 hn.2 hj' hk
    rw [List.map_cons, if_neg hne, List.map_cons, ← ih, ← h.1]
    simp
theorem MapAt.update (h : MapAt w b C) {t kt et : TypeId} (ht : Pg.underlying t = some (.map kt et)) (hk : Pg.underlying kt = some .string) (q : ByteArray) (v : Value) :
    ∃ w', (Instr.mapUpdate t (.map (some b)) (.string q) v).run Pg w = .ok () w' ∧ MapAt w' b (putC C q v) ∧ OnlyB b w w' := by
  have hn := h.nodup
  obtain ⟨es, clock, hb, hs, he⟩ := h
  rcases findNow_str q es.toList C 0 he with ⟨g1, g2, g3⟩ | ⟨j, e, u, g1, g2, g3, g4, g5, g6⟩
  · refine ⟨setBlock w b (.map (es.push ⟨.string q, v, clock⟩) (clock + 1)), ?_, ⟨_, _, heap_setBlock_same hb _, MapKept.stamped_push hs g3, ?_⟩, onlyB_set hb _⟩
    · simp [Instr.mapUpdate, run_underlying ht, MapKept.run_getObj_map hb, run_check_str hk, run_find_none hk g2, MapKept.run_setObj_map _ hb, Result.andThen, setBlock]
    · unfold putC
      rw [g1, Array.toList_push, List.map_append, he]
      simp [entP, strP]
  · have hj : es[j]? = some e := by simpa using g3
    have hst : (Instr.keyThatStays (((es[j]?).map (·.key)).getD (.string q)) (.string q)).run Pg w = .ok (.string q) w := by
      rw [hj]
      simp only [Option.map_some, Option.getD_some, g4]
      unfold Instr.keyThatStays
      have : Instr.sameBits 10000 (.string q) (.string q) = true := by unfold Instr.sameBits; simp
      rw [this]; rfl
    refine ⟨setBlock w b (.map (es.modify j fun e => { e with key := .string q, val := v }) clock), ?_, ⟨_, _, heap_setBlock_same hb _, MapKept.stamped_modify hs j _ (fun _ _ => rfl) (fun x _ hx => ?_), ?_⟩, onlyB_set hb _⟩
    · simp [Instr.mapUpdate, run_underlying ht, MapKept.run_getObj_map hb, run_check_str hk, run_find_some hk g2, MapKept.run_setObj_map _ hb, Result.andThen, setBlock, hst]
    · rw [hj] at hx; cases hx; exact g4.symm
    · unfold putC
      rw [g1]
      simp only [Option.isSome_some, if_true]
      rw [map_modify]
      exact mod_map es.toList C j q v e he hn g3 g4
theorem erase_map : ∀ (es : List MapEntry) (C : List (ByteArray × Value)) (j : Nat) (q : ByteArray) (e : MapEntry), es.map entP = C.map strP → (C.map (·.1)).Nodup → es[j]? = some e → e.key = .string q →
    (es.eraseIdx j).map entP = (delC C q).map strP
  | [], _, _, _, _, _, _, h, _ => by simp at h
  | x :: es, [], _, _, _, h, _, _, _ => by simp at h
  | x :: es, p :: C, 0, q, e, h, hn, hj, hk => by
    simp only [List.map_cons, List.cons.injEq] at h
    rw [List.map_cons, List.nodup_cons] at hn
    simp at hj; subst hj
    have hp : p.1 = q := by
      have := congrArg Prod.fst h.1
      simp only [entP, strP] at this
      rw [hk] at this; cases this; rfl
    unfold delC
    rw [List.filter_cons, if_neg (by simp [hp])]
    have : C.filter (fun p => decide (p.1 ≠ q)) = C := by
      rw [List.filter_eq_self]
      intro r hr
      simp only [ne_eq, decide_eq_true_eq]
      exact fun e => hn.1 (by rw [hp, ← e]; exact List.mem_map.2 ⟨r, hr, rfl⟩)
    rw [this, ← h.2]; simp
  | x :: es, p :: C, j + 1, q, e, h, hn, hj, hk => by
    simp only [List.map_cons, List.cons.injEq] at h
    rw [List.map_cons, List.nodup_cons] at hn
    have hj' : es[j]? = some e := by simpa using hj
    have hne : p.1 ≠ q := by
      rintro rfl
      have hm : e ∈ es := List.mem_of_getElem? hj'
      have : entP e ∈ C.map strP := by rw [← h.2]; exact List.mem_map.2 ⟨e, hm, rfl⟩
      obtain ⟨r, hr, e1⟩ := List.mem_map.1 this
      have := congrArg Prod.fst e1
      simp only [entP, strP] at this
      rw [hk] at this
      exact hn.1 (List.mem_map.2 ⟨r, hr, Value.string.inj this⟩)
    have ih := erase_map es C j q e h.2 hn.2 hj' hk
    unfold delC at ih ⊢
    rw [List.filter_cons, if_pos (by simp [hne]), List.map_cons, ← ih, ← h.1]
    simp
theorem delC_none {q : ByteArray} (h : lookC C q = none) : delC C q = C := by
  unfold delC
  rw [List.filter_eq_self]
  intro p hp
  simpa using lookC_none.1 h p hp
theorem MapAt.delete (h : MapAt w b C) {t kt et : TypeId} (ht : Pg.underlying t = some (.map kt et)) (hk : Pg.underlying kt = some .string) (q : ByteArray) (ty : TypeId) :
    ∃ w', (Builtin.delete_ #[t, kt] ty #[.map (some b), .string q]).run Pg w = .ok (.tuple #[]) w' ∧ MapAt w' b (delC C q) ∧ OnlyB b w w' := by
  have hn := h.nodup
  obtain ⟨es, clock, hb, hs, he⟩ := h
  rcases findNow_str q es.toList C 0 he with ⟨g1, g2, g3⟩ | ⟨j, e, u, g1, g2, g3, g4, g5, g6⟩
  · refine ⟨setBlock w b (.map es clock), ?_, ⟨_, _, heap_setBlock_same hb _, hs, by rw [delC_none g1]; exact he⟩, onlyB_set hb _⟩
    simp [Builtin.delete_, run_underlying ht, MapKept.run_getObj_map hb, run_check_str hk, run_find_none hk g2, MapKept.run_setObj_map _ hb, Result.andThen, setBlock]
  · refine ⟨setBlock w b (.map (es.eraseIdxIfInBounds j) clock), ?_, ⟨_, _, heap_setBlock_same hb _, MapKept.stamped_erase hs j, ?_⟩, onlyB_set hb _⟩
    · simp [Builtin.delete_, run_underlying ht, MapKept.run_getObj_map hb, run_check_str hk, run_find_some hk g2, MapKept.run_setObj_map _ hb, Result.andThen, setBlock]
    · have hj : j < es.size := by
        have := (List.getElem?_eq_some_iff.1 g3).1
        simpa using this
      have : (es.eraseIdxIfInBounds j).toList = es.toList.eraseIdx j := by
        unfold Array.eraseIdxIfInBounds
        rw [dif_pos hj]; simp
      rw [this]
      exact erase_map es.toList C j q e he hn g3 g4
/-- an iterator r over the map b, before which the entries L still lie -/
def ItAt (w : World) (b r : Nat) (C L : List (ByteArray × Value)) : Prop := ∃ es clock since seen c0, w.heap[b]? = some (.map es clock) ∧ Stamped es clock ∧ es.toList.map entP = C.map strP ∧
  w.heap[r]? = some (.mapIter (some b) since seen c0) ∧ (∀ x ∈ es.toList, x.born < since) ∧ since ≤ c0 ∧ since ≤ clock ∧ (leftOf es seen).toList.map entP = L.map strP
theorem ItAt.map {r : Nat} {L : List (ByteArray × Value)} (h : ItAt w b r C L) : MapAt w b C := by
  obtain ⟨es, clock, since, seen, c0, hb, hs, he, _⟩ := h
  exact ⟨es, clock, hb, hs, he⟩
theorem ItAt.lt {r : Nat} {L : List (ByteArray × Value)} (h : ItAt w b r C L) : r < w.heap.size := by
  obtain ⟨es, clock, since, seen, c0, hb, hs, he, hr, _⟩ := h
  exact (Array.getElem?_eq_some_iff.1 hr).1
theorem ItAt.move {w' : World} {r : Nat} {L : List (ByteArray × Value)} (h : ItAt w b r C L) (hb : w'.heap[b]? = w.heap[b]?) (hr : w'.heap[r]? = w.heap[r]?) : ItAt w' b r C L := by
  obtain ⟨es, clock, since, seen, c0, h1, h2, h3, h4, h5⟩ := h
  exact ⟨es, clock, since, seen, c0, hb.trans h1, h2, h3, hr.trans h4, h5⟩
theorem MapAt.range (h : MapAt w b C) {t kt et : TypeId} (ht : Pg.underlying t = some (.map kt et)) :
    ∃ w', (Instr.range t (.map (some b))).run Pg w = .ok (.pointer (some ⟨w.heap.size, 0, none⟩)) w' ∧ ItAt w' b w.heap.size C C ∧ Below w.heap.size w w' ∧ w'.heap.size = w.heap.size + 1 := by
  obtain ⟨es, clock, hb, hs, he⟩ := h
  have hlt : b < w.heap.size := (Array.getElem?_eq_some_iff.1 hb).1
  refine ⟨_, run_range_map w t kt et b es clock ht hb, ⟨es, clock, clock, #[], clock, (heap_alloc_old _ _ hlt).trans hb, hs, he, heap_alloc_new _ _, fun x hx => hs.1 x hx, Nat.le_refl _, Nat.le_refl _, ?_⟩, below_al (Below.refl _ _) _, by simp⟩
  have : leftOf es #[] = es := by unfold leftOf; simp
  rw [this]; exact he
theorem mem_leftOf {es : Array MapEntry} {seen : Array Nat} {e : MapEntry} : e ∈ (leftOf es seen).toList ↔ e ∈ es.toList ∧ e.born ∉ seen := by
  unfold leftOf; simp
theorem filter_map_ent : ∀ (l : List MapEntry) (L : List (ByteArray × Value)) (q : ByteArray) (f : MapEntry → Bool), l.map entP = L.map strP → (∀ x ∈ l, f x = true ↔ x.key ≠ .string q) → (l.filter f).map entP = (delC L q).map strP
  | [], L, q, f, h, _ => by
    have : L = [] := by simpa using h.symm
    subst this; rfl
  | x :: l, [], q, f, h, _ => by simp at h
  | x :: l, p :: L, q, f, h, hf => by
    simp only [List.map_cons, List.cons.injEq] at h
    have hk : x.key = .string p.1 := congrArg Prod.fst h.1
    have ih := filter_map_ent l L q f h.2 (fun y hy => hf y (List.mem_cons_of_mem _ hy))
    have hx := hf x (List.mem_cons_self ..)
    unfold delC at ih ⊢
    rw [List.filter_cons, List.filter_cons]
    by_cases hp : p.1 = q
    · have : f x = false := by
        rw [Bool.eq_false_iff]
        intro hh
        exact hx.1 hh (by rw [hk, hp])
      rw [this, if_neg (by simp), if_neg (by simp [hp])]; exact ih
    · have : f x = true := hx.2 (by rw [hk]; intro e; cases e; exact hp rfl)
      rw [this, if_pos rfl, if_pos (by simp [hp]), List.map_cons, List.map_cons, ih, h.1]
theorem ItAt.next {r : Nat} {L : List (ByteArray × Value)} (h : ItAt w b r C L) (hbr : b ≠ r) (ty : TypeId) :
    (L = [] ∧ (Instr.next (.pointer (some ⟨r, 0, none⟩)) false ty).run Pg w = .ok (.tuple #[.bool false]) w) ∨
    ∃ p w', p ∈ L ∧ (Instr.next (.pointer (some ⟨r, 0, none⟩)) false ty).run Pg w = .ok (.tuple #[.bool true, .string p.1, p.2]) w' ∧ ItAt w' b r C (delC L p.1) ∧ OnlyB r w w' ∧
      (Instr.entry (.pointer (some ⟨r, 0, none⟩))).run Pg w' = .ok (.tuple #[.string p.1, p.2]) w' := by
  obtain ⟨es, clock, since, seen, c0, h1, h2, h3, h4, h5, h6, h7, h8⟩ := h
  rcases run_next_at (P := Pg) w ty r b since c0 seen es clock h4 h1 h5 h6 with ⟨g0, g1⟩ | ⟨e, he, w1, hal, g1⟩
  · left
    have : (leftOf es seen).toList = [] := by
      apply List.eq_nil_of_length_eq_zero; simpa using g0
    rw [this] at h8
    exact ⟨by simpa using h8.symm, g1⟩
  · right
    obtain ⟨hem, hen⟩ := mem_leftOf.1 he
    have : entP e ∈ L.map strP := by rw [← h8]; exact List.mem_map.2 ⟨e, he, rfl⟩
    obtain ⟨p, hp, hpe⟩ := List.mem_map.1 this
    have hk : e.key = .string p.1 := (congrArg Prod.fst hpe).symm
    have hv : e.val = p.2 := (congrArg Prod.snd hpe).symm
    have hr1 : w1.heap[r]? = some (.mapIter (some b) since seen c0) := by rcases hal with rfl | rfl <;> exact h4
    have hb1 : w1.heap[b]? = some (.map es clock) := by rcases hal with rfl | rfl <;> exact h1
    have hrl : r < w1.heap.size := (Array.getElem?_eq_some_iff.1 hr1).1
    have hs1 : (setBlock w1 r (.mapIter (some b) since (seen.push e.born) clock)).heap[r]? = some (.mapIter (some b) since (seen.push e.born) clock) := by
      simp [setBlock, hrl]
    have hs2 : ∀ k, k ≠ r → (setBlock w1 r (.mapIter (some b) since (seen.push e.born) clock)).heap[k]? = w.heap[k]? := by
      intro k hk
      have : (setBlock w1 r (.mapIter (some b) since (seen.push e.born) clock)).heap[k]? = w1.heap[k]? := by
        simp only [setBlock]
        rw [Array.getElem?_setIfInBounds_ne (Ne.symm hk)]
      rw [this]
      rcases hal with rfl | rfl <;> rfl
    refine ⟨p, _, hp, by rw [hk, hv] at g1; exact g1, ⟨es, clock, since, seen.push e.born, clock, (hs2 b hbr).trans h1, h2, h3, hs1, h5, h7, h7, ?_⟩, ⟨?_, ?_, ?_, ?_, hs2⟩, ?_⟩
    · have hl : (leftOf es (seen.push e.born)).toList = (leftOf es seen).toList.filter (fun x => decide (x.born ≠ e.born)) := by
        unfold leftOf
        simp only [Array.toList_filter, List.filter_filter]
        congr 1
        funext x
        rw [Bool.eq_iff_iff]
        simp [and_comm, not_or]
      rw [hl]
      refine filter_map_ent _ L p.1 _ h8 (fun x hx => ?_)
      have hxm := (mem_leftOf.1 hx).1
      simp only [decide_eq_true_eq, ne_eq]
      rw [← hk]
      constructor
      · intro hne hke
        exact hne (by rw [entry_eq_of_key ((MapKept.stamped_iff es clock).1 h2).2.2 hxm hem hke])
      · intro hne hbe
        have := (MapKept.stamped_iff es clock).1 h2
        apply hne
        have hnd := h2.2.1
        have : x = e := by
          have key : ∀ (l : List MapEntry), (l.map (·.born)).Nodup → x ∈ l → e ∈ l → x.born = e.born → x = e := by
            intro l
            induction l with
            | nil => intro _ hx; cases hx
            | cons a l ih =>
              intro hn hx he hb
              rw [List.map_cons, List.nodup_cons] at hn
              rcases List.mem_cons.1 hx with hx1 | hx1
              · rcases List.mem_cons.1 he with he1 | he1
                · rw [hx1, he1]
                · exact absurd (List.mem_map.2 ⟨e, he1, by rw [← hb, hx1]⟩) hn.1
              · rcases List.mem_cons.1 he with he1 | he1
                · exact absurd (List.mem_map.2 ⟨x, hx1, by rw [hb, he1]⟩) hn.1
                · exact ih hn.2 hx1 he1 hb
          exact key _ hnd hxm hem hbe
        rw [this]
    · rcases hal with rfl | rfl <;> rfl
    · rcases hal with rfl | rfl <;> rfl
    · rcases hal with rfl | rfl <;> rfl
    · rcases hal with rfl | rfl <;> simp [setBlock]
    · rw [← hk, ← hv]
      exact run_entry_at _ r b since seen es clock e hs1 ((hs2 b hbr).trans h1) hem h2.2.1
/-- delete of a key that has come, in a round -/
theorem ItAt.delete {r : Nat} {L : List (ByteArray × Value)} (h : ItAt w b r C L) {t kt et : TypeId} (ht : Pg.underlying t = some (.map kt et)) (hk : Pg.underlying kt = some .string) (hbr : b ≠ r) (q : ByteArray) (hq : ∀ p ∈ L, p.1 ≠ q) (ty : TypeId) :
    ∃ w', (Builtin.delete_ #[t, kt] ty #[.map (some b), .string q]).run Pg w = .ok (.tuple #[]) w' ∧ ItAt w' b r (delC C q) L ∧ OnlyB b w w' := by
  have hn := h.map.nodup
  obtain ⟨es, clock, since, seen, c0, hb, hs, he, h4, h5, h6, h7, h8⟩ := h
  rcases findNow_str q es.toList C 0 he with ⟨g1, g2, g3⟩ | ⟨j, e, u, g1, g2, g3, g4, g5, g6⟩
  · refine ⟨setBlock w b (.map es clock), ?_, ⟨es, clock, since, seen, c0, heap_setBlock_same hb _, hs, by rw [delC_none g1]; exact he, (heap_setBlock_other hb _ hbr.symm).trans h4, h5, h6, h7, h8⟩, onlyB_set hb _⟩
    simp [Builtin.delete_, run_underlying ht, MapKept.run_getObj_map hb, run_check_str hk, run_find_none hk g2, MapKept.run_setObj_map _ hb, Result.andThen, setBlock]
  · have hj : j < es.size := by
      have := (List.getElem?_eq_some_iff.1 g3).1
      simpa using this
    have hel : (es.eraseIdxIfInBounds j).toList = es.toList.eraseIdx j := by
      unfold Array.eraseIdxIfInBounds
      rw [dif_pos hj]; simp
    refine ⟨setBlock w b (.map (es.eraseIdxIfInBounds j) clock), ?_, ⟨es.eraseIdxIfInBounds j, clock, since, seen, c0, heap_setBlock_same hb _, MapKept.stamped_erase hs j, ?_, (heap_setBlock_other hb _ hbr.symm).trans h4, fun x hx => h5 x ?_, h6, h7, ?_⟩, onlyB_set hb _⟩
    · simp [Builtin.delete_, run_underlying ht, MapKept.run_getObj_map hb, run_check_str hk, run_find_some hk g2, MapKept.run_setObj_map _ hb, Result.andThen, setBlock]
    · rw [hel]
      exact erase_map es.toList C j q e he hn g3 g4
    · rw [hel] at hx
      exact List.mem_of_mem_eraseIdx hx
    · have hseen : e.born ∈ seen := by
        refine Classical.byContradiction fun hns => ?_
        have hm : e ∈ (leftOf es seen).toList := mem_leftOf.2 ⟨List.mem_of_getElem? g3, hns⟩
        have : entP e ∈ L.map strP := by rw [← h8]; exact List.mem_map.2 ⟨e, hm, rfl⟩
        obtain ⟨p, hp, hpe⟩ := List.mem_map.1 this
        have hke : e.key = .string p.1 := (congrArg Prod.fst hpe).symm
        rw [g4] at hke; cases hke
        exact hq p hp rfl
      have : (leftOf (es.eraseIdxIfInBounds j) seen).toList = (leftOf es seen).toList := by
        unfold leftOf
        simp only [Array.toList_filter, hel]
        have key : ∀ (l : List MapEntry) (j : Nat), l[j]? = some e → (l.eraseIdx j).filter (fun e => !seen.contains e.born) = l.filter (fun e => !seen.contains e.born) := by
          intro l
          induction l with
          | nil => intro j hj; simp at hj
          | cons a l ih =>
            intro j hj
            cases j with
            | zero => simp at hj; subst hj; simp [hseen]
            | succ j => rw [List.eraseIdx_cons_succ, List.filter_cons, List.filter_cons, ih j (by simpa using hj)]
        exact key _ j g3
      rw [this]; exact h8
end
/-! ### at the operations -/
section
variable {Pg : Program} {w : World} {ops : Array Oper} {rest : List Oper} {o : Oper} {a : Act} {Q : Exit → Act → World → Prop} {b : Nat} {C : List (ByteArray × Value)}
theorem wpMapSet (hg : o.guard = none) {m x v : Operand} {t kt et : TypeId} (hop : o.op = Op.mapUpdate t m x v) (ht : Pg.underlying t = some (.map kt et)) (hk : Pg.underlying kt = some .string) (hm : a.eval m = .map (some b)) (h : MapAt w b C)
    {q : ByteArray} {u : Value} (hx : a.eval x = .string q) (hv : a.eval v = u) (hK : ∀ w', MapAt w' b (putC C q u) → OnlyB b w w' → wpList Pg ops Q rest (a.put o.dst undef) w') : wpList Pg ops Q (o :: rest) a w := by
  refine wpList_plain hg fun K' hK' => ?_
  obtain ⟨w', hrun, r1, r2⟩ := h.update ht hk q u
  unfold Oper.wp
  simp [execOp, hop, hm, hx, hv, hrun, Result.andThen]
  exact hK' _ _ (hK w' r1 r2)
theorem wpMapRange (hg : o.guard = none) {m : Operand} {t kt et : TypeId} (hop : o.op = Op.range t m) (ht : Pg.underlying t = some (.map kt et)) (hm : a.eval m = .map (some b)) (h : MapAt w b C)
    (hK : ∀ w', ItAt w' b w.heap.size C C → Below w.heap.size w w' → w'.heap.size = w.heap.size + 1 → wpList Pg ops Q rest (a.put o.dst (.pointer (some ⟨w.heap.size, 0, none⟩))) w') : wpList Pg ops Q (o :: rest) a w := by
  refine wpList_plain hg fun K' hK' => ?_
  obtain ⟨w', hrun, r1, r2, r3⟩ := h.range ht
  unfold Oper.wp
  simp [execOp, hop, hm, hrun, Result.andThen]
  exact hK' _ _ (hK w' r1 r2 r3)
theorem wpMapNext (hg : o.guard = none) {it : Operand} (hop : o.op = Op.next it false) {r : Nat} {L : List (ByteArray × Value)} (hit : a.eval it = .pointer (some ⟨r, 0, none⟩)) (h : ItAt w b r C L) (hbr : b ≠ r)
    (hDone : L = [] → wpList Pg ops Q rest (a.put o.dst (.tuple #[.bool false])) w)
    (hMore : ∀ (p : ByteArray × Value) (w' : World), p ∈ L → ItAt w' b r C (delC L p.1) → OnlyB r w w' → (Instr.entry (.pointer (some ⟨r, 0, none⟩))).run Pg w' = .ok (.tuple #[.string p.1, p.2]) w' → wpList Pg ops Q rest (a.put o.dst (.tuple #[.bool true, .string p.1, p.2])) w') :
    wpList Pg ops Q (o :: rest) a w := by
  refine wpList_plain hg fun K' hK' => ?_
  unfold Oper.wp
  rcases h.next (Pg := Pg) hbr o.type with ⟨h0, hrun⟩ | ⟨p, w', hp, hrun, h1, h2, h3⟩
  · simp [execOp, hop, hit, hrun, Result.andThen]
    exact hK' _ _ (hDone h0)
  · simp [execOp, hop, hit, hrun, Result.andThen]
    exact hK' _ _ (hMore p w' hp h1 h2 h3)
theorem wpMapDel (hg : o.guard = none) {m x : Operand} {t kt et : TypeId} (hop : o.op = Op.call { callee := Callee.builtin Builtin.delete, args := #[m, x], argTypes := #[t, kt] }) (ht : Pg.underlying t = some (.map kt et)) (hk : Pg.underlying kt = some .string) (hm : a.eval m = .map (some b)) (h : MapAt w b C)
    {q : ByteArray} (hx : a.eval x = .string q) (hK : ∀ w', MapAt w' b (delC C q) → OnlyB b w w' → wpList Pg ops Q rest (a.put o.dst (.tuple #[])) w') : wpList Pg ops Q (o :: rest) a w := by
  refine wpList_plain hg fun K' hK' => ?_
  obtain ⟨w', hrun, r1, r2⟩ := h.delete ht hk q o.type
  unfold Oper.wp
  simp [execOp, hop, resolve, invoke, builtin, hm, hx, hrun, Result.andThen]
  exact hK' _ _ (hK w' r1 r2)
end
end Go.Proofs.Ytmjfkjdfmpileaa.M
end
section
set_option linter.unusedVariables false
set_option linter.unusedSimpArgs false
namespace Go.Proofs.Ytmjfkjdfmpileaa.M
open Go.RowKit
theorem strsT_snoc (t : Nat) (xs : List ByteArray) (q : ByteArray) : strsT t (xs ++ [q]) = .l t 1 (xs.length + 1) (xs.flatMap strC ++ strC q) := by
  unfold strsT tl; rw [List.length_append, List.flatMap_append]; simp
theorem strsT_append (t : Nat) (xs ys : List ByteArray) : strsT t (xs ++ ys) = .l t 1 (xs.length + ys.length) (xs.flatMap strC ++ ys.flatMap strC) := by
  unfold strsT tl; rw [List.length_append, List.flatMap_append]
theorem Lies.str (lo : Nat) (w : World) (q : ByteArray) : Lies lo w (strC q) [.string q] := ⟨[], strC_own w q, List.nodup_nil, fun k hk => by cases hk⟩
section
variable {w wr : World} {lo : Nat} {ops : Array Oper} {rest : List Oper} {o : Oper} {a : Act} {Q : Exit → Act → World → Prop} {xs : List ByteArray} {q : ByteArray} {v : Value}
theorem appStr (hgd : o.guard = none) {s x : Operand} (ho : o.op = .call { callee := .builtin .append, args := #[s, x], argTypes := #[56, 56] }) (hs : a.eval s = v) (hlo : lo ≤ wr.heap.size) (hown : Lie lo wr (strsT 9 xs) v) (hb : Below wr.heap.size wr w)
    {B : Nat} (hx : a.eval x = .slice (some ⟨B, 0, none⟩) 1 1) {ty : TypeId} {fr : Nat × Nat} (hB : w.heap[B]? = some (.cells #[.string q] ty fr)) (hn : xs.length ≤ 1000000)
    (h : ∀ v' w', Lie lo w' (strsT 9 (xs ++ [q])) v' → Far lo wr.heap.size w w' → wpList Try.prog ops Q rest (a.put o.dst v') w') : wpList Try.prog ops Q (o :: rest) a w :=
  appL hgd ho Try.underlying56 info_str rfl (by decide) hs hlo hown hb hx (one_cells hB) rfl (Lies.str _ _ _) (by simp [maxLen]; omega) (by omega) (fun v' w' h1 h2 => h v' w' (by rw [strsT_snoc]; exact h1) h2)
theorem step_appStr {K : Act → World → Prop} {E : Prop} (hgd : o.guard = none) {s x : Operand} (ho : o.op = .call { callee := .builtin .append, args := #[s, x], argTypes := #[56, 56] }) (hs : a.eval s = v) (hlo : lo ≤ wr.heap.size) (hown : Lie lo wr (strsT 9 xs) v) (hb : Below wr.heap.size wr w)
    {B : Nat} (hx : a.eval x = .slice (some ⟨B, 0, none⟩) 1 1) {ty : TypeId} {fr : Nat × Nat} (hB : w.heap[B]? = some (.cells #[.string q] ty fr)) (hn : xs.length ≤ 1000000)
    (h : ∀ v' w', Lie lo w' (strsT 9 (xs ++ [q])) v' → Far lo wr.heap.size w w' → K (a.put o.dst v') w') : if Region.wanted o (yielded ops a.tmps) = true then Oper.wp Try.prog o a w K Q else E :=
  step_appL hgd ho Try.underlying56 info_str rfl (by decide) hs hlo hown hb hx (one_cells hB) rfl (Lies.str _ _ _) (by simp [maxLen]; omega) (by omega) (fun v' w' h1 h2 => h v' w' (by rw [strsT_snoc]; exact h1) h2)
end
/-- the cells of texts that read -/
theorem strs_cells {t : Nat} {w : World} {ys : List ByteArray} {A : Option Addr} {c : Nat} (h : rep w (strsT t ys) (.slice A ys.length c)) : (0 < ys.length → ∃ ad, A = some ad ∧ ∀ j u, (ys.map Value.string)[j]? = some u → w.cell? (ad.add j) = some u) ∧ reps w (ys.flatMap strC) (ys.map Value.string) := by
  simp only [strsT, tl, rep] at h
  obtain ⟨_, _, A', c', vs, he, _, hr, hcl⟩ := h
  cases he
  have : ∀ {ys : List ByteArray} {vs : List Value}, reps w (ys.flatMap strC) vs → vs = ys.map Value.string := by
    intro ys
    induction ys with
    | nil => intro vs h; simp only [List.flatMap_nil, M.reps] at h; simpa using h
    | cons y ys ih =>
      intro vs h
      simp only [List.flatMap_cons, strC, List.singleton_append, M.reps, M.rep] at h
      obtain ⟨v, us, rfl, rfl, h2⟩ := h
      rw [ih h2]; rfl
  have e := this hr
  subst e
  exact ⟨fun h0 => hcl h0, hr⟩
section
variable {w wr : World} {lo : Nat} {ops : Array Oper} {rest : List Oper} {o : Oper} {a : Act} {Q : Exit → Act → World → Prop} {xs ys : List ByteArray} {v : Value}
/-- append(xs, ys...) -/
theorem appStrs (hgd : o.guard = none) {s x : Operand} (ho : o.op = .call { callee := .builtin .append, args := #[s, x], argTypes := #[56, 56] }) (hs : a.eval s = v) (hlo : lo ≤ wr.heap.size) (hown : Lie lo wr (strsT 9 xs) v) (hb : Below wr.heap.size wr w)
    {A : Option Addr} {c t : Nat} (hx : a.eval x = .slice A ys.length c) (hy : rep w (strsT t ys) (.slice A ys.length c)) (hn : xs.length + ys.length ≤ 1000000)
    (h : ∀ v' w', Lie lo w' (strsT 9 (xs ++ ys)) v' → Far lo wr.heap.size w w' → wpList Try.prog ops Q rest (a.put o.dst v') w') : wpList Try.prog ops Q (o :: rest) a w := by
  obtain ⟨h1, h2⟩ := strs_cells hy
  exact appL hgd ho Try.underlying56 info_str rfl (by decide) hs hlo hown hb hx h1 (by simp) (Lies.flat h2 (strC_flat _) _ (Below.refl _ _)) (by simp [maxLen]; omega) (by omega) (fun v' w' h1 h2 => h v' w' (by rw [strsT_append]; exact h1) h2)
end
section
variable {Pg : Program} {w : World} {ops : Array Oper} {rest : List Oper} {o : Oper} {a : Act} {Q : Exit → Act → World → Prop} {b r : Nat} {C L : List (ByteArray × Value)}
theorem wpMapNext0 (hg : o.guard = none) {it : Operand} (hop : o.op = Op.next it false) (hit : a.eval it = .pointer (some ⟨r, 0, none⟩)) (h : ItAt w b r C []) (hbr : b ≠ r) (hDone : wpList Pg ops Q rest (a.put o.dst (.tuple #[.bool false])) w) : wpList Pg ops Q (o :: rest) a w :=
  wpMapNext hg hop hit h hbr (fun _ => hDone) (fun p w' hp _ _ _ => by cases hp)
theorem wpMapNext1 (hg : o.guard = none) {it : Operand} (hop : o.op = Op.next it false) (hit : a.eval it = .pointer (some ⟨r, 0, none⟩)) (h : ItAt w b r C L) (hbr : b ≠ r) (hL : L ≠ [])
    (hMore : ∀ (p : ByteArray × Value) (w' : World), p ∈ L → ItAt w' b r C (delC L p.1) → OnlyB r w w' → (Instr.entry (.pointer (some ⟨r, 0, none⟩))).run Pg w' = .ok (.tuple #[.string p.1, p.2]) w' → wpList Pg ops Q rest (a.put o.dst (.tuple #[.bool true, .string p.1, p.2])) w') :
    wpList Pg ops Q (o :: rest) a w :=
  wpMapNext hg hop hit h hbr (fun h0 => absurd h0 hL) hMore
theorem ItAt.left (h : ItAt w b r C L) : w.rangeLeft b r = L.length := by
  obtain ⟨es, clock, since, seen, c0, h1, h2, h3, h4, h5, h6, h7, h8⟩ := h
  unfold World.rangeLeft
  rw [h1, h4]
  have := congrArg List.length h8
  simpa using this
end
theorem delC_len {L : List (ByteArray × Value)} {p : ByteArray × Value} (hp : p ∈ L) : (delC L p.1).length < L.length := by
  unfold delC
  exact List.length_filter_lt_length_iff_exists.2 ⟨p, hp, by simp⟩
theorem OnlyB.far {b : Nat} {w w' : World} (h : OnlyB b w w') : Far b (b + 1) w w' := ⟨h.os, h.tape, h.output, Nat.le_of_eq h.size.symm, fun k _ ho => h.block k (by omega)⟩
theorem Lie.far {lo a b : Nat} {w w' : World} {t : T} {v : Value} (h : Lie lo w t v) (hf : Far a b w w') (hb : b ≤ lo) : Lie lo w' t v := by
  obtain ⟨F, h1, h2, h3⟩ := h
  exact ⟨F, h1.move fun k hk => hf.block k (h1.lt k hk) (.inr (Nat.le_trans hb (h3 k hk))), h2, h3⟩
/-- append([]string{}, ys...) -/
theorem appNew {X w : World} {ops : Array Oper} {rest : List Oper} {o : Oper} {a : Act} {Q : Exit → Act → World → Prop} {ys : List ByteArray} (hgd : o.guard = none) {s x : Operand} (ho : o.op = .call { callee := .builtin .append, args := #[s, x], argTypes := #[56, 56] }) (hs : a.eval s = .slice (some ⟨X.heap.size, 0, none⟩) 0 0) (hw : w = X.alloc (.cells #[] 9))
    {A : Option Addr} {c t : Nat} (hx : a.eval x = .slice A ys.length c) (hy : rep X (strsT t ys) (.slice A ys.length c)) (hn : ys.length ≤ 1000000)
    (h : ∀ v' w', Lie X.heap.size w' (strsT 9 ys) v' → Below X.heap.size X w' → X.heap.size < w'.heap.size → wpList Try.prog ops Q rest (a.put o.dst v') w') : wpList Try.prog ops Q (o :: rest) a w := by
  subst hw
  have hb : Below X.heap.size X (X.alloc (.cells #[] 9)) := below_al (Below.refl _ _) _
  have hE : Lie X.heap.size (X.alloc (.cells #[] 9)) (strsT 9 []) (.slice (some ⟨X.heap.size, 0, none⟩) 0 0) := ⟨[X.heap.size], own_empty X 9 1, by simp, by simp⟩
  refine appStrs hgd ho hs (xs := []) (by simp) hE (Below.refl _ _) hx (hy.below hb) (by simpa using hn) (fun v' w' h1 h2 => h v' w' (by simpa using h1) ?_ ?_)
  · exact Far.trans hb h2 (Nat.le_refl _) (by simp)
  · have := h2.size; simp at this; omega
end Go.Proofs.Ytmjfkjdfmpileaa.M
end
section
set_option linter.unusedVariables false
set_option linter.unusedSimpArgs false
namespace Go.Proofs.Ytmjfkjdfmpileaa.M
open Go.RowKit
/-- v reads as t, whatever becomes of the blocks M -/
def repS (M : List Nat) (w : World) (t : T) (v : Value) : Prop := ∀ w', MFr M w w' → rep w' t v
def repsS (M : List Nat) (w : World) (ts : List T) (vs : List Value) : Prop := ∀ w', MFr M w w' → reps w' ts vs
section
variable {Z N : List Nat} {w w' : World} {t : T} {v : Value} {ts us : List T} {vs xs : List Value}
theorem repS.rep (h : repS Z w t v) : M.rep w t v := h w (MFr.refl _ _)
theorem repsS.reps (h : repsS Z w ts vs) : M.reps w ts vs := h w (MFr.refl _ _)
theorem repS.go (h : repS Z w t v) (hm : MFr Z w w') : repS Z w' t v := fun w2 h2 => h w2 (hm.trans h2)
theorem repsS.go (h : repsS Z w ts vs) (hm : MFr Z w w') : repsS Z w' ts vs := fun w2 h2 => h w2 (hm.trans h2)
theorem repS.later (h : repS Z w t v) (hb : Below w.heap.size w w') : repS Z w' t v := h.go (MFr.of_below hb)
theorem repsS.later (h : repsS Z w ts vs) (hb : Below w.heap.size w w') : repsS Z w' ts vs := h.go (MFr.of_below hb)
theorem repS.sub (h : repS Z w t v) (hs : ∀ b ∈ N, b ∈ Z) : repS N w t v := fun w2 h2 => h w2 (h2.mono hs)
theorem repsS.sub (h : repsS Z w ts vs) (hs : ∀ b ∈ N, b ∈ Z) : repsS N w ts vs := fun w2 h2 => h w2 (h2.mono hs)
/-- what reads in a world before the blocks M were made -/
theorem repS.of {W : World} (h : M.rep W t v) (hb : Below W.heap.size W w) (hM : ∀ b ∈ Z, W.heap.size ≤ b) : repS Z w t v := fun w2 h2 => h.below ⟨h2.os.trans hb.os, h2.tape.trans hb.tape, h2.output.trans hb.output, Nat.le_trans hb.size h2.size, fun k hk => (h2.block k (Nat.lt_of_lt_of_le hk hb.size) (fun hm => by have := hM k hm; omega)).trans (hb.block k hk)⟩
theorem repsS.of {W : World} (h : M.reps W ts vs) (hb : Below W.heap.size W w) (hM : ∀ b ∈ Z, W.heap.size ≤ b) : repsS Z w ts vs := fun w2 h2 => h.below ⟨h2.os.trans hb.os, h2.tape.trans hb.tape, h2.output.trans hb.output, Nat.le_trans hb.size h2.size, fun k hk => (h2.block k (Nat.lt_of_lt_of_le hk hb.size) (fun hm => by have := hM k hm; omega)).trans (hb.block k hk)⟩
theorem repS.of_own {F : List Nat} (h : own w t v F) (hd : ∀ b ∈ F, b ∉ Z) : repS Z w t v := fun w2 h2 => (h2.own h hd).rep
theorem repsS.of_owns {F : List Nat} (h : owns w ts vs F) (hd : ∀ b ∈ F, b ∉ Z) : repsS Z w ts vs := fun w2 h2 => (h2.owns h hd).rep
theorem repsS.append (h : repsS Z w ts vs) (k : repsS Z w us xs) : repsS Z w (ts ++ us) (vs ++ xs) := fun w2 h2 => reps_append (h w2 h2) (k w2 h2)
end
/-- a row of the call's own, whose elements read elsewhere -/
def RowT (lo : Nat) (w : World) (e sz n : Nat) (ts : List T) (v : Value) : Prop := ∃ vs, RowSt lo w e sz n vs v ∧ repsS v.ownBlock.toList w ts vs
theorem RowT.nil (lo : Nat) (w : World) (e sz : Nat) : RowT lo w e sz 0 [] (.slice none 0 0) := ⟨[], RowSt.nil _ _ _ _, fun w' _ => by simp only [M.reps]⟩
theorem RowT.empty (w : World) (e sz : Nat) : RowT w.heap.size (w.alloc (.cells #[] e)) e sz 0 [] (.slice (some ⟨w.heap.size, 0, none⟩) 0 0) :=
  ⟨[], ⟨⟨by simp, .inr ⟨w.heap.size, 0, #[], rfl, Nat.zero_le _, heap_alloc_new _ _, Nat.le_refl _, Nat.zero_le _, by simp, by simp⟩⟩, fun k hk => by simp [Value.ownBlock] at hk; omega⟩, fun w' _ => by simp only [M.reps]⟩
theorem RowT.slice {lo : Nat} {w : World} {e sz n : Nat} {ts : List T} {v : Value} (h : RowT lo w e sz n ts v) : ∃ A c, v = .slice A n c ∧ n ≤ c := by
  obtain ⟨vs, h, _⟩ := h; exact h.slice
theorem RowT.lo {lo : Nat} {w : World} {e sz n : Nat} {ts : List T} {v : Value} (h : RowT lo w e sz n ts v) : ∀ k, v.ownBlock = some k → lo ≤ k := by
  obtain ⟨vs, h, _⟩ := h; exact h.2
theorem RowT.lt {lo : Nat} {w : World} {e sz n : Nat} {ts : List T} {v : Value} (h : RowT lo w e sz n ts v) : ∀ k, v.ownBlock = some k → k < w.heap.size := by
  obtain ⟨vs, h, _⟩ := h; exact fun k hk => (h.1.lt k hk).2
theorem RowT.mono {lo l : Nat} {w : World} {e sz n : Nat} {ts : List T} {v : Value} (h : RowT lo w e sz n ts v) (hl : l ≤ lo) : RowT l w e sz n ts v := by
  obtain ⟨vs, h, k⟩ := h; exact ⟨vs, ⟨h.1, fun b hb => Nat.le_trans hl (h.2 b hb)⟩, k⟩
theorem MFr.to_nil {M : List Nat} {w w' : World} (h : MFr [] w w') : MFr M w w' := h.mono (fun b hb => by cases hb)
/-- other blocks turn -/
theorem RowT.go {lo : Nat} {N : List Nat} {w w' : World} {e sz n : Nat} {ts : List T} {v : Value} (h : RowT lo w e sz n ts v) (hm : MFr N w w') (hd : ∀ k, v.ownBlock = some k → k ∉ N) (hr : ∀ vs, repsS v.ownBlock.toList w ts vs → repsS (v.ownBlock.toList ++ N) w ts vs) : RowT lo w' e sz n ts v := by
  obtain ⟨vs, h1, h2⟩ := h
  refine ⟨vs, ⟨ownsRow_move h1.1 (fun k hk => hm.block k (h1.1.lt k hk).2 (hd k hk)), h1.2⟩, ?_⟩
  exact ((hr vs h2).go (hm.mono (fun b hb => List.mem_append_right _ hb))).sub (fun b hb => List.mem_append_left _ hb)
theorem RowT.later {lo : Nat} {w w' : World} {e sz n : Nat} {ts : List T} {v : Value} (h : RowT lo w e sz n ts v) (hb : Below w.heap.size w w') : RowT lo w' e sz n ts v := by
  obtain ⟨vs, h1, h2⟩ := h
  exact ⟨vs, h1.below hb, h2.later hb⟩
theorem RowT.rep {lo : Nat} {w : World} {e sz n : Nat} {ts : List T} {v : Value} (h : RowT lo w e sz n ts v) : M.rep w (.l e sz n ts) v := by
  obtain ⟨vs, h1, h2⟩ := h
  have hr := h2.reps
  have hl := reps_length hr
  simp only [M.rep]
  rcases h1.1.2 with ⟨rfl, h0⟩ | ⟨g, cap, cur, rfl, _, hh, hc, hm, _⟩
  · have hn : n = 0 := h0
    subst hn
    exact ⟨by rw [← hl, h1.1.1], by omega, none, 0, vs, rfl, Nat.le_refl _, hr, fun hn => absurd hn (by omega)⟩
  · exact ⟨by rw [← hl, h1.1.1], by simp only [maxLen] at hm; omega, _, cap, vs, rfl, hc, hr, fun _ => ⟨_, rfl, fun j u hj => h1.1.cells (g := g) rfl j u hj⟩⟩
theorem RowT.repS {lo : Nat} {w : World} {e sz n : Nat} {ts : List T} {v : Value} {N : List Nat} (h : RowT lo w e sz n ts v) (hd : ∀ k, v.ownBlock = some k → k ∉ N) (hr : ∀ vs, repsS v.ownBlock.toList w ts vs → repsS (v.ownBlock.toList ++ N) w ts vs) : M.repS N w (.l e sz n ts) v :=
  fun w2 h2 => (h.go h2 hd hr).rep
section
variable {Pg : Program} {w wr : World} {lo : Nat}
theorem run_appT (t ty : TypeId) {e sz by_ : Nat} {z : Value} (ht : Pg.underlying t = some (.slice e))
    (hi : (Pg.info? e).map (fun i => (i.zero, i.size, i.bytes)) = some (some z, sz, by_)) (hzs : z.cells.size = sz) (hsz : 0 < sz) {v : Value} {n : Nat} {ts : List T}
    (hlo : lo ≤ wr.heap.size) (hown : RowT lo wr e sz n ts v) (hb : Below wr.heap.size wr w)
    {ad : Addr} {m c : Nat} {us : List Value} {ss : List T} (hnews : ∀ j u, us[j]? = some u → w.cell? (ad.add j) = some u) (hl : us.length = m * sz) (hu : repsS v.ownBlock.toList w ss us)
    (h63 : n + m ≤ maxLen) (hbytes : (n + m) * by_ ≤ 140737488355328) :
    ∃ v' w', (Builtin.append_ #[t, t] ty #[v, .slice (some ad) m c]).run Pg w = .ok v' w' ∧ RowT lo w' e sz (n + m) (ts ++ ss) v' ∧ MFr v.ownBlock.toList w w' ∧ ∀ k, v'.ownBlock = some k → v.ownBlock = some k ∨ w.heap.size ≤ k := by
  obtain ⟨i, g2, g3, g4, g5⟩ := info_parts hi
  subst g4
  subst g5
  obtain ⟨vs, h1, h2⟩ := hown
  have hlt := h1.1.lt
  obtain ⟨v', w', hr, k1, k2, _, k4⟩ := run_append_own_at (P := Pg) w 0 t ty e i z i.size i.bytes ht g2 g3 rfl rfl hzs hsz v n vs (h1.below hb).1 ad m c us hl hnews (reps_one' hu.reps) h63 hbytes (Nat.zero_le _)
  have hm : MFr v.ownBlock.toList w w' := ⟨k2.os, k2.tape, k2.output, k2.size, fun b hb' hn => k2.block b hb' (fun e => hn (by rw [← e]; simp))⟩
  have hall : repsS v.ownBlock.toList w (ts ++ ss) (vs ++ us) := (h2.later hb).append hu
  refine ⟨v', w', hr, ⟨vs ++ us, ⟨k1, fun k hk => ?_⟩, ?_⟩, hm, fun k hk => ?_⟩
  · rcases k4 with h | h
    · rw [h] at hk; exact h1.2 k hk
    · rw [h] at hk; cases hk; exact Nat.le_trans hlo hb.size
  · rcases k4 with h | h
    · rw [h]; exact hall.go hm
    · rw [h]
      intro w2 hw2
      refine hall w2 ⟨hw2.os.trans hm.os, hw2.tape.trans hm.tape, hw2.output.trans hm.output, Nat.le_trans hm.size hw2.size, fun b hb' hn => ?_⟩
      exact (hw2.block b (Nat.lt_of_lt_of_le hb' hm.size) (by simp; omega)).trans (hm.block b hb' hn)
  · rcases k4 with h | h
    · rw [h] at hk; exact .inl hk
    · rw [h] at hk; cases hk; exact .inr (Nat.le_refl _)
theorem appT {ops : Array Oper} {rest : List Oper} {o : Oper} {a : Act} {Q : Exit → Act → World → Prop} (hgd : o.guard = none) {s x : Operand} {t : TypeId} (ho : o.op = .call { callee := .builtin .append, args := #[s, x], argTypes := #[t, t] }) {e sz by_ : Nat} {z : Value} (ht : Pg.underlying t = some (.slice e))
    (hi : (Pg.info? e).map (fun i => (i.zero, i.size, i.bytes)) = some (some z, sz, by_)) (hzs : z.cells.size = sz) (hsz : 0 < sz) {v : Value} (hs : a.eval s = v) {n : Nat} {ts : List T}
    (hlo : lo ≤ wr.heap.size) (hown : RowT lo wr e sz n ts v) (hb : Below wr.heap.size wr w)
    {ad : Addr} {m c : Nat} (hx : a.eval x = .slice (some ad) m c) {us : List Value} {ss : List T} (hnews : ∀ j u, us[j]? = some u → w.cell? (ad.add j) = some u) (hl : us.length = m * sz) (hu : repsS v.ownBlock.toList w ss us)
    (h63 : n + m ≤ maxLen) (hbytes : (n + m) * by_ ≤ 140737488355328)
    (h : ∀ v' w', RowT lo w' e sz (n + m) (ts ++ ss) v' → MFr v.ownBlock.toList w w' → (∀ k, v'.ownBlock = some k → v.ownBlock = some k ∨ w.heap.size ≤ k) → wpList Pg ops Q rest (a.put o.dst v') w') :
    wpList Pg ops Q (o :: rest) a w := by
  refine wpList_plain hgd fun K hK => ?_
  obtain ⟨v', w', hr, h2, h3, h4⟩ := run_appT (Pg := Pg) (w := w) (wr := wr) (c := c) t o.type ht hi hzs hsz hlo hown hb hnews hl hu h63 hbytes
  unfold Oper.wp execOp
  simp only [ho, resolve, invoke, builtin, Sem.run_bind, Sem.run_pure, Result.andThen_ok, List.map_toArray, List.map_cons, List.map_nil, hs, hx, hr]
  exact hK _ _ (h v' w' h2 h3 h4)
theorem step_appT {ops : Array Oper} {o : Oper} {a : Act} {K : Act → World → Prop} {Q : Exit → Act → World → Prop} {E : Prop} (hgd : o.guard = none) {s x : Operand} {t : TypeId} (ho : o.op = .call { callee := .builtin .append, args := #[s, x], argTypes := #[t, t] }) {e sz by_ : Nat} {z : Value} (ht : Pg.underlying t = some (.slice e))
    (hi : (Pg.info? e).map (fun i => (i.zero, i.size, i.bytes)) = some (some z, sz, by_)) (hzs : z.cells.size = sz) (hsz : 0 < sz) {v : Value} (hs : a.eval s = v) {n : Nat} {ts : List T}
    (hlo : lo ≤ wr.heap.size) (hown : RowT lo wr e sz n ts v) (hb : Below wr.heap.size wr w)
    {ad : Addr} {m c : Nat} (hx : a.eval x = .slice (some ad) m c) {us : List Value} {ss : List T} (hnews : ∀ j u, us[j]? = some u → w.cell? (ad.add j) = some u) (hl : us.length = m * sz) (hu : repsS v.ownBlock.toList w ss us)
    (h63 : n + m ≤ maxLen) (hbytes : (n + m) * by_ ≤ 140737488355328)
    (h : ∀ v' w', RowT lo w' e sz (n + m) (ts ++ ss) v' → MFr v.ownBlock.toList w w' → (∀ k, v'.ownBlock = some k → v.ownBlock = some k ∨ w.heap.size ≤ k) → K (a.put o.dst v') w') :
    if Region.wanted o (yielded ops a.tmps) = true then Oper.wp Pg o a w K Q else E := by
  have hw : Region.wanted o (yielded ops a.tmps) = true := by simp [Region.wanted, hgd]
  rw [if_pos hw]
  obtain ⟨v', w', hr, h2, h3, h4⟩ := run_appT (Pg := Pg) (w := w) (wr := wr) (c := c) t o.type ht hi hzs hsz hlo hown hb hnews hl hu h63 hbytes
  unfold Oper.wp execOp
  simp only [ho, resolve, invoke, builtin, Sem.run_bind, Sem.run_pure, Result.andThen_ok, List.map_toArray, List.map_cons, List.map_nil, hs, hx, hr]
  exact h v' w' h2 h3 h4
end
/-- a row of the call's own, whose elements read elsewhere, whatever becomes of the blocks N -/
def RowN (N : List Nat) (lo : Nat) (w : World) (e sz n : Nat) (ts : List T) (v : Value) : Prop := ∃ vs, RowSt lo w e sz n vs v ∧ repsS (v.ownBlock.toList ++ N) w ts vs
theorem RowN.row {N : List Nat} {lo : Nat} {w : World} {e sz n : Nat} {ts : List T} {v : Value} (h : RowN N lo w e sz n ts v) : RowT lo w e sz n ts v := by
  obtain ⟨vs, h1, h2⟩ := h; exact ⟨vs, h1, h2.sub (fun b hb => List.mem_append_left _ hb)⟩
theorem RowN.nil (N : List Nat) (lo : Nat) (w : World) (e sz : Nat) : RowN N lo w e sz 0 [] (.slice none 0 0) := ⟨[], RowSt.nil _ _ _ _, fun w' _ => by simp only [M.reps]⟩
theorem RowN.later {N : List Nat} {lo : Nat} {w w' : World} {e sz n : Nat} {ts : List T} {v : Value} (h : RowN N lo w e sz n ts v) (hb : Below w.heap.size w w') : RowN N lo w' e sz n ts v := by
  obtain ⟨vs, h1, h2⟩ := h
  exact ⟨vs, h1.below hb, h2.later hb⟩
theorem RowN.go {lo : Nat} {N : List Nat} {w w' : World} {e sz n : Nat} {ts : List T} {v : Value} (h : RowN N lo w e sz n ts v) (hm : MFr N w w') (hd : ∀ k, v.ownBlock = some k → k ∉ N) : RowN N lo w' e sz n ts v := by
  obtain ⟨vs, h1, h2⟩ := h
  exact ⟨vs, ⟨ownsRow_move h1.1 (fun k hk => hm.block k (h1.1.lt k hk).2 (hd k hk)), h1.2⟩, h2.go (hm.mono (fun b hb => List.mem_append_right _ hb))⟩
theorem RowN.repS {lo : Nat} {w : World} {e sz n : Nat} {ts : List T} {v : Value} {N : List Nat} (h : RowN N lo w e sz n ts v) (hd : ∀ k, v.ownBlock = some k → k ∉ N) : M.repS N w (.l e sz n ts) v :=
  fun w2 h2 => (h.go h2 hd).row.rep
theorem RowN.empty (N : List Nat) (w : World) (e sz : Nat) : RowN N w.heap.size (w.alloc (.cells #[] e)) e sz 0 [] (.slice (some ⟨w.heap.size, 0, none⟩) 0 0) :=
  ⟨[], ⟨⟨by simp, .inr ⟨w.heap.size, 0, #[], rfl, Nat.zero_le _, heap_alloc_new _ _, Nat.le_refl _, Nat.zero_le _, by simp, by simp⟩⟩, fun k hk => by simp [Value.ownBlock] at hk; omega⟩, fun w' _ => by simp only [M.reps]⟩
theorem RowN.slice {N : List Nat} {lo : Nat} {w : World} {e sz n : Nat} {ts : List T} {v : Value} (h : RowN N lo w e sz n ts v) : ∃ A c, v = .slice A n c ∧ n ≤ c := h.row.slice
theorem RowN.lo {N : List Nat} {lo : Nat} {w : World} {e sz n : Nat} {ts : List T} {v : Value} (h : RowN N lo w e sz n ts v) : ∀ k, v.ownBlock = some k → lo ≤ k := h.row.lo
theorem RowN.lt {N : List Nat} {lo : Nat} {w : World} {e sz n : Nat} {ts : List T} {v : Value} (h : RowN N lo w e sz n ts v) : ∀ k, v.ownBlock = some k → k < w.heap.size := h.row.lt
theorem RowN.ge {N : List Nat} {lo : Nat} {w : World} {e sz n : Nat} {ts : List T} {v : Value} (h : RowN N lo w e sz n ts v) : ∀ b ∈ v.ownBlock.toList, lo ≤ b := fun b hb => h.lo b (by simpa [Option.mem_toList] using hb)
theorem RowN.mono {N : List Nat} {lo l : Nat} {w : World} {e sz n : Nat} {ts : List T} {v : Value} (h : RowN N lo w e sz n ts v) (hl : l ≤ lo) : RowN N l w e sz n ts v := by
  obtain ⟨vs, h, k⟩ := h; exact ⟨vs, ⟨h.1, fun b hb => Nat.le_trans hl (h.2 b hb)⟩, k⟩
theorem repsS.ofN {Z N : List Nat} {w W : World} {ts : List T} {vs : List Value} (h : repsS N W ts vs) (hb : Below W.heap.size W w) (hM : ∀ b ∈ Z, W.heap.size ≤ b) : repsS (Z ++ N) w ts vs := fun w2 h2 => h w2 ⟨h2.os.trans hb.os, h2.tape.trans hb.tape, h2.output.trans hb.output, Nat.le_trans hb.size h2.size, fun k hk hn => (h2.block k (Nat.lt_of_lt_of_le hk hb.size) (fun hm => by
  rcases List.mem_append.1 hm with hm | hm
  · have := hM k hm; omega
  · exact hn hm)).trans (hb.block k hk)⟩
theorem repS.nil {w : World} {t : T} {v : Value} (h : M.rep w t v) : repS [] w t v := fun w2 h2 => h.below (h2.below (Nat.le_refl _) (fun b hb => by cases hb))
theorem repsS.nil {w : World} {ts : List T} {vs : List Value} (h : M.reps w ts vs) : repsS [] w ts vs := fun w2 h2 => h.below (h2.below (Nat.le_refl _) (fun b hb => by cases hb))
section
variable {Pg : Program} {w wr : World} {lo : Nat} {N : List Nat}
theorem run_appN (t ty : TypeId) {e sz by_ : Nat} {z : Value} (ht : Pg.underlying t = some (.slice e))
    (hi : (Pg.info? e).map (fun i => (i.zero, i.size, i.bytes)) = some (some z, sz, by_)) (hzs : z.cells.size = sz) (hsz : 0 < sz) {v : Value} {n : Nat} {ts : List T}
    (hlo : lo ≤ wr.heap.size) (hown : RowN N lo wr e sz n ts v) (hb : Below wr.heap.size wr w)
    {ad : Addr} {m c : Nat} {us : List Value} {ss : List T} (hnews : ∀ j u, us[j]? = some u → w.cell? (ad.add j) = some u) (hl : us.length = m * sz) (hu : repsS (v.ownBlock.toList ++ N) w ss us)
    (h63 : n + m ≤ maxLen) (hbytes : (n + m) * by_ ≤ 140737488355328) :
    ∃ v' w', (Builtin.append_ #[t, t] ty #[v, .slice (some ad) m c]).run Pg w = .ok v' w' ∧ RowN N lo w' e sz (n + m) (ts ++ ss) v' ∧ MFr v.ownBlock.toList w w' ∧ ∀ k, v'.ownBlock = some k → v.ownBlock = some k ∨ w.heap.size ≤ k := by
  obtain ⟨i, g2, g3, g4, g5⟩ := info_parts hi
  subst g4
  subst g5
  obtain ⟨vs, h1, h2⟩ := hown
  have hlt := h1.1.lt
  obtain ⟨v', w', hr, k1, k2, _, k4⟩ := run_append_own_at (P := Pg) w 0 t ty e i z i.size i.bytes ht g2 g3 rfl rfl hzs hsz v n vs (h1.below hb).1 ad m c us hl hnews (reps_one' hu.reps) h63 hbytes (Nat.zero_le _)
  have hm : MFr v.ownBlock.toList w w' := ⟨k2.os, k2.tape, k2.output, k2.size, fun b hb' hn => k2.block b hb' (fun e => hn (by rw [← e]; simp))⟩
  have hall : repsS (v.ownBlock.toList ++ N) w (ts ++ ss) (vs ++ us) := (h2.later hb).append hu
  refine ⟨v', w', hr, ⟨vs ++ us, ⟨k1, fun k hk => ?_⟩, ?_⟩, hm, fun k hk => ?_⟩
  · rcases k4 with h | h
    · rw [h] at hk; exact h1.2 k hk
    · rw [h] at hk; cases hk; exact Nat.le_trans hlo hb.size
  · rcases k4 with h | h
    · rw [h]; exact hall.go (hm.mono (fun b hb => List.mem_append_left _ hb))
    · rw [h]
      intro w2 hw2
      refine hall w2 ⟨hw2.os.trans hm.os, hw2.tape.trans hm.tape, hw2.output.trans hm.output, Nat.le_trans hm.size hw2.size, fun b hb' hn => ?_⟩
      exact (hw2.block b (Nat.lt_of_lt_of_le hb' hm.size) (fun hx => by
        rcases List.mem_append.1 hx with h1 | h1
        · simp at h1; omega
        · exact hn (List.mem_append_right _ h1))).trans (hm.block b hb' (fun hx => hn (List.mem_append_left _ hx)))
  · rcases k4 with h | h
    · rw [h] at hk; exact .inl hk
    · rw [h] at hk; cases hk; exact .inr (Nat.le_refl _)
theorem appN {ops : Array Oper} {rest : List Oper} {o : Oper} {a : Act} {Q : Exit → Act → World → Prop} (hgd : o.guard = none) {s x : Operand} {t : TypeId} (ho : o.op = .call { callee := .builtin .append, args := #[s, x], argTypes := #[t, t] }) {e sz by_ : Nat} {z : Value} (ht : Pg.underlying t = some (.slice e))
    (hi : (Pg.info? e).map (fun i => (i.zero, i.size, i.bytes)) = some (some z, sz, by_)) (hzs : z.cells.size = sz) (hsz : 0 < sz) {v : Value} (hs : a.eval s = v) {n : Nat} {ts : List T}
    (hlo : lo ≤ wr.heap.size) (hown : RowN N lo wr e sz n ts v) (hb : Below wr.heap.size wr w)
    {ad : Addr} {m c : Nat} (hx : a.eval x = .slice (some ad) m c) {us : List Value} {ss : List T} (hnews : ∀ j u, us[j]? = some u → w.cell? (ad.add j) = some u) (hl : us.length = m * sz) (hu : repsS (v.ownBlock.toList ++ N) w ss us)
    (h63 : n + m ≤ maxLen) (hbytes : (n + m) * by_ ≤ 140737488355328)
    (h : ∀ v' w', RowN N lo w' e sz (n + m) (ts ++ ss) v' → MFr v.ownBlock.toList w w' → (∀ k, v'.ownBlock = some k → v.ownBlock = some k ∨ w.heap.size ≤ k) → wpList Pg ops Q rest (a.put o.dst v') w') :
    wpList Pg ops Q (o :: rest) a w := by
  refine wpList_plain hgd fun K hK => ?_
  obtain ⟨v', w', hr, h2, h3, h4⟩ := run_appN (Pg := Pg) (w := w) (wr := wr) (c := c) t o.type ht hi hzs hsz hlo hown hb hnews hl hu h63 hbytes
  unfold Oper.wp execOp
  simp only [ho, resolve, invoke, builtin, Sem.run_bind, Sem.run_pure, Result.andThen_ok, List.map_toArray, List.map_cons, List.map_nil, hs, hx, hr]
  exact hK _ _ (h v' w' h2 h3 h4)
theorem step_appN {ops : Array Oper} {o : Oper} {a : Act} {K : Act → World → Prop} {Q : Exit → Act → World → Prop} {E : Prop} (hgd : o.guard = none) {s x : Operand} {t : TypeId} (ho : o.op = .call { callee := .builtin .append, args := #[s, x], argTypes := #[t, t] }) {e sz by_ : Nat} {z : Value} (ht : Pg.underlying t = some (.slice e))
    (hi : (Pg.info? e).map (fun i => (i.zero, i.size, i.bytes)) = some (some z, sz, by_)) (hzs : z.cells.size = sz) (hsz : 0 < sz) {v : Value} (hs : a.eval s = v) {n : Nat} {ts : List T}
    (hlo : lo ≤ wr.heap.size) (hown : RowN N lo wr e sz n ts v) (hb : Below wr.heap.size wr w)
    {ad : Addr} {m c : Nat} (hx : a.eval x = .slice (some ad) m c) {us : List Value} {ss : List T} (hnews : ∀ j u, us[j]? = some u → w.cell? (ad.add j) = some u) (hl : us.length = m * sz) (hu : repsS (v.ownBlock.toList ++ N) w ss us)
    (h63 : n + m ≤ maxLen) (hbytes : (n + m) * by_ ≤ 140737488355328)
    (h : ∀ v' w', RowN N lo w' e sz (n + m) (ts ++ ss) v' → MFr v.ownBlock.toList w w' → (∀ k, v'.ownBlock = some k → v.ownBlock = some k ∨ w.heap.size ≤ k) → K (a.put o.dst v') w') :
    if Region.wanted o (yielded ops a.tmps) = true then Oper.wp Pg o a w K Q else E := by
  have hw : Region.wanted o (yielded ops a.tmps) = true := by simp [Region.wanted, hgd]
  rw [if_pos hw]
  obtain ⟨v', w', hr, h2, h3, h4⟩ := run_appN (Pg := Pg) (w := w) (wr := wr) (c := c) t o.type ht hi hzs hsz hlo hown hb hnews hl hu h63 hbytes
  unfold Oper.wp execOp
  simp only [ho, resolve, invoke, builtin, Sem.run_bind, Sem.run_pure, Result.andThen_ok, List.map_toArray, List.map_cons, List.map_nil, hs, hx, hr]
  exact h v' w' h2 h3 h4
end
end Go.Proofs.Ytmjfkjdfmpileaa.M
end
section
set_option linter.unusedVariables false
set_option linter.unusedSimpArgs false
namespace Go.Proofs.Ytmjfkjdfmpileaa.M
open Go.RowKit

theorem info_Run : (Try.prog.info? 126).map (fun i => (i.zero, i.size, i.bytes)) = some (some (.agg #[.string ⟨#[]⟩, .bool false, .bool false, .string ⟨#[]⟩, .int .i64 0, .int .i64 0, .slice none 0 0]), 7, 80) := by kernel_rfl
theorem z_Run (W : World) : owns W (zRun.c) (Value.agg #[.string ⟨#[]⟩, .bool false, .bool false, .string ⟨#[]⟩, .int .i64 0, .int .i64 0, .slice none 0 0]).cells.toList [] := by have h := Run.omk (w := W) zRun (own_nil _ _ _); simpa [Value.cells, zRun] using h
end Go.Proofs.Ytmjfkjdfmpileaa.M
end
section
set_option linter.unusedVariables false
set_option linter.unusedSimpArgs false
namespace Go.Proofs.Ytmjfkjdfmpileaa.M
open Go.RowKit
theorem cellOf {w : World} {b : Nat} {cs : Array Value} {ty : TypeId} {fr : Nat × Nat} (h : w.heap[b]? = some (.cells cs ty fr)) {i : Nat} {v : Value} (hi : cs[i]? = some v) : w.cell? ⟨b, i, none⟩ = some v := by
  simp [World.cell?, h, hi]
theorem frozenOf {w : World} {b : Nat} {cs : Array Value} {ty : TypeId} (h : w.heap[b]? = some (.cells cs ty (0, 0))) (i : Nat) : w.frozen? ⟨b, i, none⟩ = false := by
  simp [World.frozen?, h]
theorem lt_of_heap {w : World} {b : Nat} {o : Obj} (h : w.heap[b]? = some o) : b < w.heap.size := (Array.getElem?_eq_some_iff.1 h).1
structure Ent where
  r : Run
  b : Nat
  v : Value
  G : List Nat
def runCells (r : Run) (v : Value) : Array Value := #[.string r.Name, .bool r.Over, .bool r.Fail, .string r.Text, .int .i64 r.At, .int .i64 r.Visits, v]
def RunAt (w : World) (x : Ent) : Prop := w.heap[x.b]? = some (.cells (runCells x.r x.v) 126 (0, 0)) ∧ own w (strsT 9 x.r.Texts) x.v x.G
def entF (x : Ent) : List Nat := x.b :: x.G
def entsF (L : List Ent) : List Nat := L.flatMap entF
def ptrP (x : Ent) : ByteArray × Value := (x.r.Name, .pointer (some ⟨x.b, 0, none⟩))
def ptrC (L : List Ent) : List (ByteArray × Value) := L.map ptrP
/-- all of it, laid open -/
structure EngX (lo : Nat) (w : World) (W : Web) (roots : List ByteArray) (R : List Run) (e : Nat) (F : List Nat) (m : Nat) (nv rv : Value) (L : List Ent) (Fr : List Nat) (W0 : World) (tN tS tC : Nat) : Prop where
  eng : w.heap[e]? = some (.cells #[nv, rv, .map (some m)] 131 (0, 0))
  nodes : rep W0 (NodesT tN tS tC W.Nodes) nv
  low : W0.heap.size ≤ lo
  below : Below W0.heap.size W0 w
  above : ∀ b ∈ F, lo ≤ b
  roots : own w (strsT 9 roots) rv Fr
  map : MapAt w m (ptrC L)
  runs : ∀ x ∈ L, RunAt w x
  perm : R.Perm (L.map Ent.r)
  asc : AscR R
  foot : F = e :: m :: (Fr ++ entsF L)
  nodup : F.Nodup
def Eng (lo : Nat) (w : World) (W : Web) (roots : List ByteArray) (R : List Run) (e : Nat) (F : List Nat) : Prop := ∃ m nv rv L Fr W0 tN tS tC, EngX lo w W roots R e F m nv rv L Fr W0 tN tS tC
theorem MFr.below0 {F : List Nat} {w w' : World} {lo : Nat} {W0 : World} (h : MFr F w w') (hF : ∀ b ∈ F, lo ≤ b) (hl : W0.heap.size ≤ lo) (hb : Below W0.heap.size W0 w) : Below W0.heap.size W0 w' :=
  ⟨h.os.trans hb.os, h.tape.trans hb.tape, h.output.trans hb.output, Nat.le_trans hb.size h.size, fun k hk => (h.block k (Nat.lt_of_lt_of_le hk hb.size) (fun hf => by have := hF k hf; omega)).trans (hb.block k hk)⟩
section
variable {lo : Nat} {w w' : World} {W : Web} {roots : List ByteArray} {R : List Run} {e : Nat} {F : List Nat} {m : Nat} {nv rv : Value} {L : List Ent} {Fr : List Nat} {W0 : World} {tN tS tC : Nat}
theorem EngX.lt (h : EngX lo w W roots R e F m nv rv L Fr W0 tN tS tC) : ∀ b ∈ F, b < w.heap.size := by
  intro b hb
  rw [h.foot] at hb
  rcases List.mem_cons.1 hb with rfl | hb
  · exact lt_of_heap h.eng
  · rcases List.mem_cons.1 hb with rfl | hb
    · exact h.map.lt
    · rcases List.mem_append.1 hb with hb | hb
      · exact h.roots.lt b hb
      · obtain ⟨x, hx, hb⟩ := List.mem_flatMap.1 hb
        obtain ⟨h1, h2⟩ := h.runs x hx
        rcases List.mem_cons.1 hb with rfl | hb
        · exact lt_of_heap h1
        · exact h2.lt b hb
theorem Eng.lt (h : Eng lo w W roots R e F) : ∀ b ∈ F, b < w.heap.size := by
  obtain ⟨m, nv, rv, L, Fr, W0, tN, tS, tC, h⟩ := h; exact h.lt
theorem Eng.above (h : Eng lo w W roots R e F) : ∀ b ∈ F, lo ≤ b := by
  obtain ⟨m, nv, rv, L, Fr, W0, tN, tS, tC, h⟩ := h; exact h.above
theorem Eng.nodup (h : Eng lo w W roots R e F) : F.Nodup := by
  obtain ⟨m, nv, rv, L, Fr, W0, tN, tS, tC, h⟩ := h; exact h.nodup
theorem Eng.self (h : Eng lo w W roots R e F) : e ∈ F := by
  obtain ⟨m, nv, rv, L, Fr, W0, tN, tS, tC, h⟩ := h; rw [h.foot]; exact List.mem_cons_self ..
theorem RunAt.move {x : Ent} (h : RunAt w x) (hm : ∀ b ∈ entF x, w'.heap[b]? = w.heap[b]?) : RunAt w' x :=
  ⟨(hm _ (List.mem_cons_self ..)).trans h.1, h.2.move fun b hb => hm b (List.mem_cons_of_mem _ hb)⟩
theorem EngX.move (h : EngX lo w W roots R e F m nv rv L Fr W0 tN tS tC) (hm : ∀ b ∈ F, w'.heap[b]? = w.heap[b]?) (hb : Below W0.heap.size W0 w') : EngX lo w' W roots R e F m nv rv L Fr W0 tN tS tC := by
  have hf : ∀ b, b ∈ e :: m :: (Fr ++ entsF L) → w'.heap[b]? = w.heap[b]? := fun b hb => hm b (h.foot ▸ hb)
  exact ⟨(hf e (by simp)).trans h.eng, h.nodes, h.low, hb, h.above, h.roots.move fun b hb => hf b (by simp [hb]), h.map.move (hf m (by simp)),
    fun x hx => (h.runs x hx).move fun b hb => hf b (by
      have : b ∈ entsF L := List.mem_flatMap.2 ⟨x, hx, hb⟩
      simp [this]), h.perm, h.asc, h.foot, h.nodup⟩
/-- what has turned lies elsewhere -/
theorem EngX.other {G : List Nat} (h : EngX lo w W roots R e F m nv rv L Fr W0 tN tS tC) (hg : MFr G w w') (hd : ∀ b ∈ F, b ∉ G) (hG : ∀ b ∈ G, lo ≤ b) : EngX lo w' W roots R e F m nv rv L Fr W0 tN tS tC :=
  h.move (fun b hb => hg.block b (h.lt b hb) (hd b hb)) (hg.below0 hG h.low h.below)
theorem Eng.other {G : List Nat} (h : Eng lo w W roots R e F) (hg : MFr G w w') (hd : ∀ b ∈ F, b ∉ G) (hG : ∀ b ∈ G, lo ≤ b) : Eng lo w' W roots R e F := by
  obtain ⟨m, nv, rv, L, Fr, W0, tN, tS, tC, h⟩ := h; exact ⟨m, nv, rv, L, Fr, W0, tN, tS, tC, h.other hg hd hG⟩
theorem EngX.later (h : EngX lo w W roots R e F m nv rv L Fr W0 tN tS tC) (hb : Below w.heap.size w w') : EngX lo w' W roots R e F m nv rv L Fr W0 tN tS tC := h.other (G := []) (MFr.of_below hb) (by simp) (by simp)
theorem Eng.later (h : Eng lo w W roots R e F) (hb : Below w.heap.size w w') : Eng lo w' W roots R e F := h.other (G := []) (MFr.of_below hb) (by simp) (by simp)
theorem Eng.asc (h : Eng lo w W roots R e F) : AscR R := by
  obtain ⟨m, nv, rv, L, Fr, W0, tN, tS, tC, h⟩ := h; exact h.asc
/-- the engine's own cells -/
theorem EngX.cells (h : EngX lo w W roots R e F m nv rv L Fr W0 tN tS tC) : ∃ A c B d, nv = .slice A W.Nodes.length c ∧ rv = .slice B roots.length d ∧ W.Nodes.length ≤ c ∧ roots.length ≤ d ∧ w.cell? ⟨e, 0, none⟩ = some (.slice A W.Nodes.length c) ∧ w.cell? ⟨e, 1, none⟩ = some (.slice B roots.length d) ∧ w.cell? ⟨e, 2, none⟩ = some (.map (some m)) := by
  obtain ⟨A, c, rfl, hc, _⟩ := rep_len h.nodes
  obtain ⟨B, d, rfl, hd, _⟩ := own_slice h.roots
  exact ⟨A, c, B, d, rfl, rfl, hc, hd, cellOf h.eng rfl, cellOf h.eng rfl, cellOf h.eng rfl⟩
theorem EngX.web (h : EngX lo w W roots R e F m nv rv L Fr W0 tN tS tC) : rep w (NodesT tN tS tC W.Nodes) nv := h.nodes.below h.below
theorem EngX.reps (h : EngX lo w W roots R e F m nv rv L Fr W0 tN tS tC) : reps w (W.c tN tS tC) [nv] := by
  simp only [Web.c, M.reps]; exact ⟨nv, [], rfl, h.web, rfl⟩
theorem EngX.names (h : EngX lo w W roots R e F m nv rv L Fr W0 tN tS tC) : (L.map fun x => x.r.Name).Nodup := by
  have h1 := h.asc.nodup
  have h2 := h.perm.map Run.Name
  rw [List.map_map] at h2
  exact h2.nodup_iff.1 h1
theorem EngX.look_some (h : EngX lo w W roots R e F m nv rv L Fr W0 tN tS tC) {q : ByteArray} {r : Run} (hr : runOf R q = some r) : ∃ x ∈ L, x.r = r ∧ lookC (ptrC L) q = some (.pointer (some ⟨x.b, 0, none⟩)) := by
  obtain ⟨h1, h2⟩ := runOf_some hr
  obtain ⟨x, hx, rfl⟩ := List.mem_map.1 (h.perm.mem_iff.1 h1)
  refine ⟨x, hx, rfl, lookC_mem ?_ ?_⟩
  · unfold ptrC
    rw [List.map_map]
    exact h.names
  · rw [← h2]; exact List.mem_map.2 ⟨x, hx, rfl⟩
theorem EngX.look_none (h : EngX lo w W roots R e F m nv rv L Fr W0 tN tS tC) {q : ByteArray} (hr : runOf R q = none) : lookC (ptrC L) q = none := by
  rw [lookC_none]
  intro p hp
  obtain ⟨x, hx, rfl⟩ := List.mem_map.1 hp
  exact runOf_none.1 hr x.r (h.perm.mem_iff.2 (List.mem_map.2 ⟨x, hx, rfl⟩))
theorem Perm_insR (r : Run) : ∀ (R : List Run), (insR r R).Perm (r :: R)
  | [] => List.Perm.refl _
  | x :: R => by
    unfold insR
    split
    · exact List.Perm.refl _
    · exact ((Perm_insR r R).cons x).trans (List.Perm.swap _ _ _)
theorem entsF_append (L M : List Ent) : entsF (L ++ M) = entsF L ++ entsF M := by unfold entsF; rw [List.flatMap_append]
/-- a new run -/
theorem EngX.ins (h : EngX lo w W roots R e F m nv rv L Fr W0 tN tS tC) {q : ByteArray} (hq : runOf R q = none) {b : Nat} (hb : w'.heap[b]? = some (.cells (runCells (newRun q) (.slice none 0 0)) 126 (0, 0))) (hbl : w.heap.size ≤ b)
    (hM : MapAt w' m (putC (ptrC L) q (.pointer (some ⟨b, 0, none⟩)))) (hf : MFr [m] w w') : Eng lo w' W roots (insR (newRun q) R) e (F ++ [b]) ∧ MFr F w w' := by
  have hmF : m ∈ F := by rw [h.foot]; simp
  have hlt := h.lt
  have hne : ∀ k ∈ F, k ≠ m → w'.heap[k]? = w.heap[k]? := fun k hk hkm => hf.block k (hlt k hk) (by simpa using hkm)
  have hnd := h.nodup
  rw [h.foot] at hnd
  obtain ⟨n1, n2⟩ := List.nodup_cons.1 hnd
  obtain ⟨n3, n4⟩ := List.nodup_cons.1 n2
  have hbF : b ∉ F := fun hk => by have := hlt b hk; omega
  have hput : putC (ptrC L) q (.pointer (some ⟨b, 0, none⟩)) = ptrC (L ++ [⟨newRun q, b, .slice none 0 0, []⟩]) := by
    unfold putC
    rw [h.look_none hq]
    simp [ptrC, ptrP, newRun]
  refine ⟨⟨m, nv, rv, L ++ [⟨newRun q, b, .slice none 0 0, []⟩], Fr, W0, tN, tS, tC, ?_, h.nodes, h.low, ?_, ?_, ?_, hput ▸ hM, ?_, ?_, ?_, ?_, ?_⟩, hf.mono (fun k hk => by simp at hk; rw [hk]; exact hmF)⟩
  · exact (hne e (by rw [h.foot]; simp) (fun e1 => n1 (by rw [e1]; simp))).trans h.eng
  · exact hf.below0 (fun k hk => by simp at hk; rw [hk]; exact h.above m hmF) h.low h.below
  · intro k hk
    rcases List.mem_append.1 hk with hk | hk
    · exact h.above k hk
    · simp at hk; rw [hk]; exact Nat.le_trans (Nat.le_of_lt (Nat.lt_of_le_of_lt (h.above m hmF) (hlt m hmF))) hbl
  · exact h.roots.move fun k hk => hne k (by rw [h.foot]; simp [hk]) (fun e1 => n3 (by rw [← e1]; simp [hk]))
  · intro x hx
    rcases List.mem_append.1 hx with hx | hx
    · exact (h.runs x hx).move fun k hk => by
        have : k ∈ entsF L := List.mem_flatMap.2 ⟨x, hx, hk⟩
        exact hne k (by rw [h.foot]; simp [this]) (fun e1 => n3 (by rw [← e1]; simp [this]))
    · simp at hx; subst hx
      exact ⟨hb, own_nil _ _ _⟩
  · refine (Perm_insR _ _).trans ?_
    rw [List.map_append]
    exact (h.perm.cons _).trans (List.perm_append_singleton _ _).symm
  · exact insR_asc h.asc (fun x hx => runOf_none.1 hq x hx)
  · rw [h.foot, entsF_append]
    simp [entsF, entF]
  · exact nod2 h.nodup (by simp) (fun k hk hk' => by simp at hk'; rw [hk'] at hk; exact hbF hk)
theorem setR_perm {R S : List Run} (h : R.Perm S) (r : Run) : (setR r R).Perm (setR r S) := h.map _
theorem mem_foot (h : EngX lo w W roots R e F m nv rv L Fr W0 tN tS tC) {x : Ent} (hx : x ∈ L) : ∀ b ∈ entF x, b ∈ F := by
  intro b hb
  rw [h.foot]
  have : b ∈ entsF L := List.mem_flatMap.2 ⟨x, hx, hb⟩
  simp [this]
theorem flatMap_nodup_apart : ∀ {L : List Ent} {x y : Ent}, (entsF L).Nodup → x ∈ L → y ∈ L → x ≠ y → ∀ b ∈ entF x, b ∉ entF y
  | a :: L, x, y, hn, hx, hy, hne, b, hb, hb' => by
    unfold entsF at hn
    rw [List.flatMap_cons] at hn
    obtain ⟨n1, n2, n3⟩ := List.nodup_append.1 hn
    rcases List.mem_cons.1 hx with hx1 | hx1
    · rcases List.mem_cons.1 hy with hy1 | hy1
      · exact hne (hx1.trans hy1.symm)
      · exact n3 b (hx1 ▸ hb) b (List.mem_flatMap.2 ⟨y, hy1, hb'⟩) rfl
    · rcases List.mem_cons.1 hy with hy1 | hy1
      · exact n3 b (hy1 ▸ hb') b (List.mem_flatMap.2 ⟨x, hx1, hb⟩) rfl
      · exact flatMap_nodup_apart n2 hx1 hy1 hne b hb hb'
/-- the entries with that of r' anew -/
def setL (y : Ent) (L : List Ent) : List Ent := L.map fun x => if rIs y.r.Name x.r then y else x
theorem mem_setL {x y : Ent} {L : List Ent} (h : x ∈ setL y L) : x = y ∨ (x ∈ L ∧ x.r.Name ≠ y.r.Name) := by
  unfold setL at h
  obtain ⟨z, hz, rfl⟩ := List.mem_map.1 h
  by_cases e : z.r.Name = y.r.Name
  · rw [(rIs_iff _ _).2 e]; exact .inl rfl
  · rw [rIs_ne e]; exact .inr ⟨hz, e⟩
theorem setL_split : ∀ {L : List Ent} {x : Ent} (y : Ent), x ∈ L → (L.map fun z => z.r.Name).Nodup → x.r.Name = y.r.Name → ∃ A B, L = A ++ x :: B ∧ setL y L = A ++ y :: B
  | a :: L, x, y, hx, hn, he => by
    rw [List.map_cons, List.nodup_cons] at hn
    rcases List.mem_cons.1 hx with rfl | hx
    · refine ⟨[], L, rfl, ?_⟩
      unfold setL
      rw [List.map_cons, (rIs_iff _ _).2 he, if_pos rfl]
      congr 1
      conv => rhs; rw [← List.map_id L]
      apply List.map_congr_left
      intro z hz
      rw [rIs_ne (fun e => hn.1 (by rw [he, ← e]; exact List.mem_map.2 ⟨z, hz, rfl⟩))]; rfl
    · obtain ⟨A, B, rfl, h2⟩ := setL_split y hx hn.2 he
      refine ⟨a :: A, B, rfl, ?_⟩
      unfold setL at h2 ⊢
      rw [List.map_cons, h2, rIs_ne (fun e => hn.1 (by rw [e, ← he]; exact List.mem_map.2 ⟨x, by simp, rfl⟩))]
      rfl
/-- a run anew, in its block -/
theorem EngX.put (h : EngX lo w W roots R e F m nv rv L Fr W0 tN tS tC) {x y : Ent} (hx : x ∈ L) (hn : y.r.Name = x.r.Name) (hb : y.b = x.b) (hR : RunAt w' y) (hG : y.G.Nodup) (hGs : ∀ k ∈ y.G, k ∈ x.G ∨ w.heap.size ≤ k)
    (hf : MFr (entF x) w w') : Eng lo w' W roots (setR y.r R) e (e :: m :: (Fr ++ entsF (setL y L))) ∧ MFr F w w' ∧ ∀ k ∈ e :: m :: (Fr ++ entsF (setL y L)), k ∈ F ∨ w.heap.size ≤ k := by
  have hlt := h.lt
  have hxF := mem_foot h hx
  have hnd := h.nodup
  rw [h.foot] at hnd
  obtain ⟨n1, n2⟩ := List.nodup_cons.1 hnd
  obtain ⟨n3, n4⟩ := List.nodup_cons.1 n2
  obtain ⟨n5, n6, n7⟩ := List.nodup_append.1 n4
  have hxs : ∀ b ∈ entF x, b ∈ entsF L := fun b hb => List.mem_flatMap.2 ⟨x, hx, hb⟩
  have hne : ∀ k ∈ F, k ∉ entF x → w'.heap[k]? = w.heap[k]? := fun k hk hkm => hf.block k (hlt k hk) hkm
  obtain ⟨A, B, hL, hS⟩ := setL_split y hx h.names hn.symm
  have hbx : x.b ∉ y.G := fun hk => by
    rcases hGs _ hk with hk' | hk'
    · have : (entF x).Nodup := by
        rw [hL] at n6
        rw [entsF_append] at n6
        have := (List.nodup_append.1 n6).2.1
        unfold entsF at this
        rw [List.flatMap_cons] at this
        exact (List.nodup_append.1 this).1
      exact (List.nodup_cons.1 this).1 hk'
    · have := hlt x.b (hxF _ (List.mem_cons_self ..)); omega
  have hyn : (entF y).Nodup := List.nodup_cons.2 ⟨hb ▸ hbx, hG⟩
  have hys : ∀ k ∈ entF y, k ∈ entF x ∨ w.heap.size ≤ k := by
    intro k hk
    rcases List.mem_cons.1 hk with rfl | hk
    · rw [hb]; exact .inl (List.mem_cons_self ..)
    · exact (hGs k hk).imp (List.mem_cons_of_mem _) id
  have hall : ∀ k ∈ e :: m :: (Fr ++ entsF (setL y L)), k ∈ F ∨ w.heap.size ≤ k := by
    intro k hk
    rw [hS, entsF_append] at hk
    have hk2 : k ∈ e :: m :: (Fr ++ entsF L) ∨ k ∈ entF y := by
      rw [hL, entsF_append]
      unfold entsF at hk ⊢
      rw [List.flatMap_cons] at hk ⊢
      simp only [List.mem_cons, List.mem_append] at hk ⊢
      rcases hk with h | h | h | h | h | h
      · exact .inl (.inl h)
      · exact .inl (.inr (.inl h))
      · exact .inl (.inr (.inr (.inl h)))
      · exact .inl (.inr (.inr (.inr (.inl h))))
      · exact .inr h
      · exact .inl (.inr (.inr (.inr (.inr (.inr h)))))
    rcases hk2 with hk2 | hk2
    · exact .inl (h.foot ▸ hk2)
    · rcases hys k hk2 with hk3 | hk3
      · exact .inl (hxF k hk3)
      · exact .inr hk3
  refine ⟨⟨m, nv, rv, setL y L, Fr, W0, tN, tS, tC, ?_, h.nodes, h.low, ?_, ?_, ?_, ?_, ?_, ?_, ?_, rfl, ?_⟩, hf.mono hxF, hall⟩
  · exact (hne e (by rw [h.foot]; simp) (fun hk => n1 (by simp [hxs e hk]))).trans h.eng
  · exact hf.below0 (fun k hk => h.above k (hxF k hk)) h.low h.below
  · intro k hk
    rcases hall k hk with hk | hk
    · exact h.above k hk
    · have := h.above e (by rw [h.foot]; simp)
      have := hlt e (by rw [h.foot]; simp)
      omega
  · exact h.roots.move fun k hk => hne k (by rw [h.foot]; simp [hk]) (fun hk' => n7 k hk k (hxs k hk') rfl)
  · have : ptrC (setL y L) = ptrC L := by
      rw [hS, hL]
      simp [ptrC, ptrP, hn, hb]
    rw [this]
    exact h.map.move (hne m (by rw [h.foot]; simp) (fun hk => n3 (by simp [hxs m hk])))
  · intro z hz
    rcases mem_setL hz with rfl | ⟨hz, hzn⟩
    · exact hR
    · exact (h.runs z hz).move fun k hk => hne k (mem_foot h hz k hk) (flatMap_nodup_apart n6 hz hx (fun e1 => hzn (by rw [e1, hn])) k hk)
  · have : (setL y L).map Ent.r = setR y.r (L.map Ent.r) := by
      unfold setL setR
      rw [List.map_map, List.map_map]
      apply List.map_congr_left
      intro z _
      simp only [Function.comp]
      split <;> rfl
    rw [this]
    exact setR_perm h.perm _
  · exact setR_asc h.asc
  · rw [hS, entsF_append]
    rw [hL, entsF_append] at n6 n1 n3 n7
    unfold entsF at n6 n1 n3 n7 ⊢
    rw [List.flatMap_cons] at n6 n1 n3 n7 ⊢
    obtain ⟨a1, a2, a3⟩ := List.nodup_append.1 n6
    obtain ⟨b1, b2, b3⟩ := List.nodup_append.1 a2
    have old : ∀ k ∈ entF y, ∀ (S : List Nat), (∀ j ∈ S, j < w.heap.size) → (∀ j ∈ S, j ∉ entF x) → k ∉ S := by
      intro k hk S hS1 hS2 hkS
      rcases hys k hk with hk' | hk'
      · exact hS2 k hkS hk'
      · have := hS1 k hkS; omega
    have hA : ∀ j ∈ List.flatMap entF A, j < w.heap.size := fun j hj => hlt j (by rw [h.foot, hL]; unfold entsF; rw [List.flatMap_append]; simp [hj])
    have hB : ∀ j ∈ List.flatMap entF B, j < w.heap.size := fun j hj => hlt j (by rw [h.foot, hL]; unfold entsF; rw [List.flatMap_append, List.flatMap_cons]; simp [hj])
    have hF1 : ∀ j ∈ Fr, j < w.heap.size := fun j hj => hlt j (by rw [h.foot]; simp [hj])
    have he1 : e < w.heap.size := hlt e (by rw [h.foot]; simp)
    have hm1 : m < w.heap.size := hlt m (by rw [h.foot]; simp)
    have kA := fun k hk => old k hk _ hA (fun j hj hj' => a3 j hj j (by simp [hj']) rfl)
    have kB := fun k hk => old k hk _ hB (fun j hj hj' => b3 j hj' j hj rfl)
    have kF := fun k hk => old k hk _ hF1 (fun j hj hj' => n7 j hj j (by simp [hj']) rfl)
    have ke : e ∉ entF y := fun hk => old e hk [e] (fun j hj => by simp at hj; rw [hj]; exact he1) (fun j hj hj' => by simp at hj; rw [hj] at hj'; exact n1 (by simp [hj'])) (by simp)
    have km : m ∉ entF y := fun hk => old m hk [m] (fun j hj => by simp at hj; rw [hj]; exact hm1) (fun j hj hj' => by simp at hj; rw [hj] at hj'; exact n3 (by simp [hj'])) (by simp)
    refine List.nodup_cons.2 ⟨fun hk => ?_, List.nodup_cons.2 ⟨fun hk => ?_, nod2 n5 (nod2 a1 (nod2 hyn b2 (fun k hk hk' => kB k hk hk')) (fun k hk hk' => ?_)) (fun k hk hk' => ?_)⟩⟩
    · simp only [List.mem_cons, List.mem_append] at hk n1
      rcases hk with hk | hk | hk | hk | hk
      · exact n1 (.inl hk)
      · exact n1 (.inr (.inl hk))
      · exact n1 (.inr (.inr (.inl hk)))
      · exact ke hk
      · exact n1 (.inr (.inr (.inr (.inr hk))))
    · simp only [List.mem_cons, List.mem_append] at hk n3
      rcases hk with hk | hk | hk | hk
      · exact n3 (.inl hk)
      · exact n3 (.inr (.inl hk))
      · exact km hk
      · exact n3 (.inr (.inr (.inr hk)))
    · rcases List.mem_append.1 hk' with hk' | hk'
      · exact kA k hk' hk
      · exact a3 k hk k (by simp [hk']) rfl
    · rcases List.mem_append.1 hk' with hk' | hk'
      · exact n7 k hk k (by simp [hk']) rfl
      · rcases List.mem_append.1 hk' with hk' | hk'
        · exact kF k hk' hk
        · exact n7 k hk k (by simp [hk']) rfl
end
/-- what a call leaves that turns the engine -/
def EngP (lo : Nat) (W : Web) (roots : List ByteArray) (R : List Run) (e : Nat) (F : List Nat) (w w' : World) : Prop := ∃ F', Eng lo w' W roots R e F' ∧ MFr F w w' ∧ ∀ k ∈ F', k ∈ F ∨ w.heap.size ≤ k
theorem EngP.same {lo : Nat} {w w' : World} {W : Web} {roots : List ByteArray} {R : List Run} {e : Nat} {F : List Nat} (h : Eng lo w W roots R e F) (hb : Below w.heap.size w w') : EngP lo W roots R e F w w' :=
  ⟨F, h.later hb, MFr.of_below hb, fun k hk => .inl hk⟩
theorem EngP.trans {lo : Nat} {w w1 w2 : World} {W : Web} {roots : List ByteArray} {R : List Run} {e : Nat} {F F1 : List Nat} (hm : MFr F w w1) (hs : ∀ k ∈ F1, k ∈ F ∨ w.heap.size ≤ k) (h : EngP lo W roots R e F1 w1 w2) : EngP lo W roots R e F w w2 := by
  obtain ⟨F2, h1, h2, h3⟩ := h
  refine ⟨F2, h1, ⟨h2.os.trans hm.os, h2.tape.trans hm.tape, h2.output.trans hm.output, Nat.le_trans hm.size h2.size, fun b hb hn => ?_⟩, fun k hk => ?_⟩
  · exact (h2.block b (Nat.lt_of_lt_of_le hb hm.size) (fun hf => by rcases hs b hf with h | h; · exact hn h
                                                                    · omega)).trans (hm.block b hb hn)
  · rcases h3 k hk with h | h
    · exact hs k h
    · exact .inr (Nat.le_trans hm.size h)
end Go.Proofs.Ytmjfkjdfmpileaa.M
end
section
set_option linter.unusedVariables false
set_option linter.unusedSimpArgs false
namespace Go.Proofs.Ytmjfkjdfmpileaa.M
open Go.RowKit
open Go.Sort
theorem asc_unique : ∀ {xs ys : List ByteArray}, xs.Perm ys → xs.Pairwise (fun a b => ltS b a = false) → Asc ys → xs = ys
  | [], ys, h, _, _ => by rw [List.Perm.nil_eq h]
  | x :: xs, [], h, _, _ => by simpa using h.length_eq
  | x :: xs, y :: ys, h, hx, hy => by
    obtain ⟨h1, h2⟩ := List.pairwise_cons.1 hx
    obtain ⟨k1, k2⟩ := List.pairwise_cons.1 hy
    have e : x = y := by
      have hxm : x ∈ y :: ys := h.mem_iff.1 (List.mem_cons_self ..)
      have hym : y ∈ x :: xs := h.mem_iff.2 (List.mem_cons_self ..)
      rcases List.mem_cons.1 hxm with e | hxm
      · exact e
      · rcases List.mem_cons.1 hym with e | hym
        · exact e.symm
        · have a := h1 y hym
          rw [k1 x hxm] at a; cases a
    subst e
    rw [asc_unique ((List.perm_cons _).1 h) h2 k2]
theorem sorted_eq {xs ys : List ByteArray} (hp : xs.Perm ys) (ha : Asc ys) : ((xs.map (·.data.toList)).mergeSort fun x y => decide (x ≤ y)).map (fun l => (⟨l.toArray⟩ : ByteArray)) = ys := by
  have hback : ∀ l : List ByteArray, (l.map (·.data.toList)).map (fun l => (⟨l.toArray⟩ : ByteArray)) = l := by
    intro l; rw [List.map_map]
    conv => rhs; rw [← List.map_id l]
    apply List.map_congr_left
    intro x _; simp
  have hperm := List.mergeSort_perm (xs.map (·.data.toList)) (fun x y => decide (x ≤ y))
  have hsort : ((xs.map (·.data.toList)).mergeSort fun x y => decide (x ≤ y)).Pairwise (fun x y => decide (x ≤ y) = true) := by
    apply List.pairwise_mergeSort
    · intro a b c h1 h2
      simp only [decide_eq_true_eq] at h1 h2 ⊢
      exact List.le_trans h1 h2
    · intro a b
      rcases List.le_total a b with h | h <;> simp [h]
  refine asc_unique ?_ ?_ ha
  · have := hperm.map (fun l => (⟨l.toArray⟩ : ByteArray))
    rw [hback] at this
    exact this.trans hp
  · rw [List.pairwise_map]
    refine hsort.imp fun {a b} h => ?_
    rw [ltS_not]
    simp only [decide_eq_true_eq] at h
    simpa [ByteArray.toList_eq] using h
theorem strs_owns {w : World} : ∀ {xs : List ByteArray} {vs : List Value} {G : List Nat}, owns w (xs.flatMap strC) vs G → vs = xs.map Value.string ∧ G = []
  | [], vs, G, h => by simp only [List.flatMap_nil, owns] at h; exact ⟨by simpa using h.1, h.2⟩
  | x :: xs, vs, G, h => by
    simp only [List.flatMap_cons, strC, List.singleton_append, owns] at h
    obtain ⟨v, us, F1, F2, rfl, h1, h2, rfl⟩ := h
    simp only [own] at h1
    obtain ⟨rfl, rfl⟩ := h1
    obtain ⟨rfl, rfl⟩ := strs_owns h2
    exact ⟨rfl, rfl⟩
theorem owns_strs (w : World) : ∀ (xs : List ByteArray), owns w (xs.flatMap strC) (xs.map Value.string) []
  | [] => by simp [owns]
  | x :: xs => by
    simp only [List.flatMap_cons, strC, List.singleton_append, owns, List.map_cons]
    exact ⟨_, _, [], [], rfl, own_s _ _, owns_strs w xs, rfl⟩
theorem Strings_calls (xs ys : List ByteArray) (v : Value) (F : List Nat) (w : World) (h : own w (strsT 9 xs) v F) (hp : xs.Perm ys) (ha : Asc ys) (hn : xs.length ≤ 1000000) :
    Calls Try.prog 105 #[v] w fun e w' => e = .returned (.tuple #[]) ∧ own w' (strsT 9 ys) v F ∧ MFr F w w' := by
  have h' := h
  simp only [strsT, tl, own] at h
  rcases h with ⟨vs, G, ho, hr, rfl, hng⟩ | ⟨h0, hc, rfl, A, rfl⟩
  · obtain ⟨rfl, rfl⟩ := strs_owns hr
    rcases ho.2 with ⟨hv, h0⟩ | ⟨g, cap, cur, rfl, hbase, hb, h1, h2, h3, h4⟩
    · have hx : xs = [] := by simpa using h0
      subst hx
      have hy : ys = [] := by simpa using hp.length_eq.symm
      subst hy
      subst hv
      exact (Try.sort_Strings_none none 0 w).mono fun e w' ⟨he, hw⟩ => ⟨he, hw ▸ h', hw ▸ MFr.refl _ _⟩
    · have hlen : (xs.map (·.data.toList)).length = xs.length := by simp
      have hcells : cur.toList.take (xs.map (·.data.toList)).length = (xs.map (·.data.toList)).map encStr := by
        rw [hlen]
        have : cur.toList.take xs.length = xs.map Value.string := by simpa using h4
        rw [this, List.map_map]
        apply List.map_congr_left
        intro x _; rfl
      have hH := holds_of_block hb hcells
      have hg : g < w.heap.size := lt_of_heap hb
      have hc := Try.sort_Strings g 0 cap (xs.map (·.data.toList)) w hH hg (by rw [hlen]; omega)
      rw [hlen] at hc
      refine hc.mono ?_
      rintro e w' ⟨rfl, nn, os, rfl⟩
      have hs := sorted_eq hp ha
      have hsl : ((xs.map (·.data.toList)).mergeSort fun x y => decide (x ≤ y)).length = (xs.map (·.data.toList)).length := List.length_mergeSort _
      have hrow := ownsRow_sorted (w := w) (base := 0) (n := nn) (e := 9) (os := os) hsl (Nat.zero_le _) hb (by rw [hlen]; exact h1) h2 h3
      have hgr := grownBy_sorted (w := w) (g := g) (n := nn) (os := os) ((xs.map (·.data.toList)).mergeSort fun x y => decide (x ≤ y)).toArray
      refine ⟨rfl, ?_, ⟨hgr.os, hgr.tape, hgr.output, hgr.size, fun b hb hn => hgr.block b hb (fun e => hn (by simp [Value.ownBlock]; simpa using e))⟩⟩
      have hyl : ys.length = xs.length := hp.length_eq.symm
      unfold strsT tl own
      refine .inl ⟨ys.map Value.string, [], ?_, owns_strs _ ys, by simp [Value.ownBlock], fun k _ hk => by cases hk⟩
      have e1 : ((xs.map (·.data.toList)).mergeSort fun x y => decide (x ≤ y)).map encStr = ys.map Value.string := by
        rw [← hs, List.map_map]
        apply List.map_congr_left
        intro x _; rfl
      rw [e1, hlen, ← hyl] at hrow
      rw [← hyl]
      exact hrow
  · have hx : xs = [] := List.eq_nil_of_length_eq_zero h0
    subst hx
    have hy : ys = [] := by simpa using hp.length_eq.symm
    subst hy
    exact (Try.sort_Strings_none (some A) 0 w).mono fun e w' ⟨he, hw⟩ => ⟨he, hw ▸ h', hw ▸ MFr.refl _ _⟩
end Go.Proofs.Ytmjfkjdfmpileaa.M
end
section
set_option linter.unusedVariables false
set_option linter.unusedSimpArgs false
namespace Go.Proofs.Ytmjfkjdfmpileaa.M
open Go.RowKit
open Go.ChangeMaps (setBlock)
theorem zero_runP (w : World) : (zeroValue 134).run Try.prog w = .ok (.pointer none) w := by kernel_rfl
section
variable {lo : Nat} {w : World} {W : Web} {roots : List ByteArray} {R : List Run} {e : Nat} {F : List Nat} {m : Nat} {nv rv : Value} {L : List Ent} {Fr : List Nat} {W0 : World} {tN tS tC : Nat}
theorem EngX.run_none (h : EngX lo w W roots R e F m nv rv L Fr W0 tN tS tC) {q : ByteArray} (hq : runOf R q = none) : (Instr.lookup 129 (.map (some m)) (.string q) false).run Try.prog w = .ok (.pointer none) w := by
  have := h.map.look (Pg := Try.prog) Try.underlying129 Try.underlying9 (zero_runP w) q false
  rw [h.look_none hq] at this
  exact this
theorem EngX.run_some (h : EngX lo w W roots R e F m nv rv L Fr W0 tN tS tC) {q : ByteArray} {r : Run} (hq : runOf R q = some r) : ∃ x ∈ L, x.r = r ∧ (Instr.lookup 129 (.map (some m)) (.string q) false).run Try.prog w = .ok (.pointer (some ⟨x.b, 0, none⟩)) w := by
  have := h.map.look (Pg := Try.prog) Try.underlying129 Try.underlying9 (zero_runP w) q false
  obtain ⟨x, hx, hr, hl⟩ := h.look_some hq
  rw [hl] at this
  exact ⟨x, hx, hr, this⟩
end
set_option maxRecDepth 100000 in
set_option maxHeartbeats 2000000 in
theorem want_calls {lo : Nat} (W : Web) (roots : List ByteArray) (R : List Run) (e : Nat) (F : List Nat) (q : ByteArray) (w : World) (h : Eng lo w W roots R e F) (ha : Asc (W.Nodes.map Node.Name)) (hn : W.Nodes.length ≤ 1000000) :
    Calls Try.prog 94 #[.pointer (some ⟨e, 0, none⟩), .string q] w fun e' w' => e' = .returned (.tuple #[]) ∧ EngP lo W roots (want W R q) e F w w' := by
  obtain ⟨m, nv, rv, L, Fr, W0, tN, tS, tC, hX⟩ := h
  obtain ⟨A, c, B, d, rfl, rfl, _, _, c0, c1, c2⟩ := hX.cells
  have hreps := Asd.mk hX.reps
  have hE : Eng lo w W roots R e F := ⟨m, _, _, L, Fr, W0, tN, tS, tC, hX⟩
  replace hE := Asd.mk hE
  have he : e < w.heap.size := hX.lt e (by rw [hX.foot]; simp)
  have ha := Asd.mk ha
  by_cases q1 : hasN W.Nodes q = true
  rotate_left
  · have q1 := Bool.eq_false_iff.2 q1
    have e1 := Asd.mk (want_out (R := R) q1)
    replace hX := Asd.mk hX
    go_enter Try.func94, Try.ntmps94
    go_wp2_with fail
    refine (find_calls W q _ hreps.out ha.out hn).mono ?_
    rintro e' w1 ⟨k, hk, rfl, hb⟩
    rw [q1]
    replace hb := Asd.mk hb
    go_wp2
    go_end0
    exact ⟨rfl, by rw [e1.out]; exact EngP.same hE.out hb.out⟩
  cases hr : runOf R q with
  | some r =>
    have e1 := Asd.mk (want_has (W := W) hr)
    obtain ⟨x, hx, hxr, hl⟩ := (hX).run_some hr
    replace hX := Asd.mk hX
    clear hl
    go_enter Try.func94, Try.ntmps94
    go_wp2_with fail
    refine (find_calls W q _ hreps.out ha.out hn).mono ?_
    rintro e' w1 ⟨k, hk, rfl, hb⟩
    rw [q1]
    obtain ⟨x, hx, hxr, hl⟩ := (hX.out.later hb).run_some hr
    obtain ⟨hcx, hfx⟩ := bcell hb
    replace hb := Asd.mk hb
    go_wp2
    go_end0
    exact ⟨rfl, by rw [e1.out]; exact EngP.same hE.out hb.out⟩
  | none =>
    have e1 := Asd.mk (want_new q1 hr)
    replace hX := Asd.mk hX
    go_enter Try.func94, Try.ntmps94
    go_wp2_with fail
    refine (find_calls W q _ hreps.out ha.out hn).mono ?_
    rintro e' w1 ⟨k, hk, rfl, hb⟩
    rw [q1]
    have hl := (hX.out.later hb).run_none hr
    obtain ⟨hcx, hfx⟩ := bcell hb
    replace hb := Asd.mk hb
    have hM := Asd.mk (fun (o : Obj) => (hX.out.later hb.out).map.move (heap_alloc_old w1 o (hX.out.later hb.out).map.lt))
    go_wp2_with (at_mapUpdate; refine wpMapSet rfl rfl Try.underlying129 Try.underlying9 rfl (hM.out _) rfl rfl ?_)
    intro w2 hM2 hO
    go_wp2
    go_end0
    refine ⟨rfl, ?_⟩
    rw [e1.out]
    have h1 := hX.out.later hb.out
    obtain ⟨g1, g2⟩ := h1.ins hr (b := w1.heap.size) ((hO.block _ (by have := h1.map.lt; omega)).trans (heap_alloc_new _ _)) (Nat.le_refl _) hM2 ⟨hO.os, hO.tape, hO.output, by rw [hO.size]; simp, fun b hb1 hbm => (hO.block b (by simpa using hbm)).trans (heap_alloc_old _ _ hb1)⟩
    refine EngP.trans (MFr.of_below hb.out) (fun k hk => .inl hk) ⟨_, g1, g2, fun k hk => ?_⟩
    rcases List.mem_append.1 hk with hk | hk
    · exact .inl hk
    · simp at hk; exact .inr (by omega)
end Go.Proofs.Ytmjfkjdfmpileaa.M
end
section
set_option linter.unusedVariables false
set_option linter.unusedSimpArgs false
namespace Go.Proofs.Ytmjfkjdfmpileaa.M
open Go.RowKit
theorem Eng.start {w w' : World} {W : Web} {roots : List ByteArray} {tN tS tC : Nat} {nv rv : Value} {Fr : List Nat} {e m : Nat} (hn : rep w (NodesT tN tS tC W.Nodes) nv) (hb : Below w.heap.size w w') (ho : own w' (strsT 9 roots) rv Fr) (hF : Fr.Nodup) (hFl : ∀ b ∈ Fr, w.heap.size ≤ b)
    (hm : w'.heap[m]? = some (.map #[] 0)) (he : w'.heap[e]? = some (.cells #[nv, rv, .map (some m)] 131 (0, 0))) (hml : w.heap.size ≤ m) (hel : w.heap.size ≤ e) (hem : e ≠ m) (hmF : m ∉ Fr) (heF : e ∉ Fr) : Eng w.heap.size w' W roots [] e (e :: m :: (Fr ++ entsF [])) := by
  refine ⟨m, nv, rv, [], Fr, w, tN, tS, tC, he, hn, Nat.le_refl _, hb, fun b hb => ?_, ho, ⟨#[], 0, hm, MapKept.stamped_empty 0, rfl⟩, fun x hx => (by cases hx), List.Perm.refl _, AscR.nil, rfl, ?_⟩
  · simp only [entsF, List.flatMap_nil, List.append_nil, List.mem_cons] at hb
    rcases hb with rfl | rfl | hb
    · exact hel
    · exact hml
    · exact hFl b hb
  · simp only [entsF, List.flatMap_nil, List.append_nil]
    exact List.nodup_cons.2 ⟨fun h => by rcases List.mem_cons.1 h with h | h; · exact hem h
                                         · exact heF h, List.nodup_cons.2 ⟨hmF, hF⟩⟩
def BeginP (W : Web) (roots : List ByteArray) (R : List Run) (w : World) (e' : Ending) (w' : World) : Prop := ∃ e F, e' = .returned (.pointer (some ⟨e, 0, none⟩)) ∧ Eng w.heap.size w' W roots R e F ∧ Below w.heap.size w w'
def BegL (W : Web) (roots : List ByteArray) (w : World) (s : Value) (wx : World) : Prop := ∃ e F, s = .pointer (some ⟨e, 0, none⟩) ∧ Eng w.heap.size wx W roots [] e F ∧ Below w.heap.size w wx
set_option maxRecDepth 100000 in
set_option maxHeartbeats 4000000 in
theorem begin_calls {tN tS tC ts : Nat} (W : Web) (roots : List ByteArray) (v : Value) (w : World) {vs : List Value} (h : reps w (W.c tN tS tC) vs) (hv : rep w (strsT ts roots) v) (ha : Asc (W.Nodes.map Node.Name)) (hn : W.Nodes.length ≤ 1000000) (hr : roots.length ≤ 1000000) :
    Calls Try.prog 63 #[.agg vs.toArray, v] w (BeginP W roots (begin_ W roots) w) := by
  obtain ⟨v0, rfl, h0⟩ := Web.ropen h
  obtain ⟨A, c, rfl, _, _⟩ := rep_len h0
  obtain ⟨B, d, rfl, _, _⟩ := rep_len hv
  clear h
  replace h0 := Asd.mk h0
  replace hv := Asd.mk hv
  replace ha := Asd.mk ha
  have hmm := @run_makeMap Try.prog
  go_enter Try.func63, Try.ntmps63
  go_wp2
  obtain ⟨w1, e1⟩ : ∃ X : World, X = w.alloc (.cells #[.slice A W.Nodes.length c] 28) := ⟨_, rfl⟩
  rw [← e1]
  have hb1 : Below w.heap.size w w1 := e1 ▸ below_al (Below.refl _ _) _
  have c0 : w1.cell? ⟨w.heap.size, 0, none⟩ = some (.slice A W.Nodes.length c) := by rw [e1]; go_simp
  have z1 : w.heap.size < w1.heap.size := by rw [e1]; simp
  clear e1
  replace hb1 := Asd.mk hb1
  have hkeep := Asd.mk (show ∀ X, Below w1.heap.size w1 X → Below w1.heap.size w1 X ∧ X.cell? ⟨w.heap.size, 0, none⟩ = some (.slice A W.Nodes.length c) from fun X hb => ⟨hb, cell_below hb c0⟩)
  go_cut [5] (fun s5 wx => BegL W roots w s5 wx)
  case first =>
    have s_0 : Below w1.heap.size w1 w1.drew := (Below.refl _ _).drew
    go_region_held3 (fun X => Below w1.heap.size w1 X ∧ X.cell? ⟨w.heap.size, 0, none⟩ = some (.slice A W.Nodes.length c)) ((refine hkeep.out _ ?_; (repeat (first | (with_reducible exact Below.refl _ _) | (with_reducible exact s_0) | (with_reducible refine below_al ?_ _) | (with_reducible refine below_dr ?_ _) | (with_reducible refine below_d1 ?_) | ((with_reducible refine Below.setCell ?_ ?_ _); rotate_left; (next => first | (simp; done) | (simp; omega) | omega))))))
      (first | (go_at_call 75; refine (CloneStr_calls roots _ _ (hv.out.below (below_st hb1.out (show Below w1.heap.size w1 _ from by repeat (first | (with_reducible exact Below.refl _ _) | (with_reducible exact s_0) | (with_reducible refine below_al ?_ _) | (with_reducible refine below_dr ?_ _) | (with_reducible refine below_d1 ?_) | ((with_reducible refine Below.setCell ?_ ?_ _); rotate_left; (next => first | (simp; done) | (simp; omega) | omega)))))) (by omega)).mono ?_; rintro e' w2 ⟨v1, rfl, hM, hb⟩; obtain ⟨s_0, s_1⟩ := hkeep.out _ (below_st (show Below w1.heap.size w1 _ from by repeat (first | (with_reducible exact Below.refl _ _) | (with_reducible exact s_0) | (with_reducible refine below_al ?_ _) | (with_reducible refine below_dr ?_ _) | (with_reducible refine below_d1 ?_) | ((with_reducible refine Below.setCell ?_ ?_ _); rotate_left; (next => first | (simp; done) | (simp; omega) | omega)))) hb); obtain ⟨Fr, o1, n1, l1⟩ := hM; obtain ⟨D, d2, rfl, _, _⟩ := own_slice o1; replace hb := Asd.mk hb; replace o1 := Asd.mk o1; replace l1 := Asd.mk l1; replace n1 := Asd.mk n1))
    all_goals (go_wp2_with fail; go_meet)
    · have zz : w1.heap.size ≤ w2.heap.size := by have := hb.out.size; (try simp at this); omega
      refine ⟨w2.heap.size + 1, _, by simp, Eng.start (m := w2.heap.size) h0.out (by repeat (first | (with_reducible exact Below.refl _ _) | (with_reducible exact below_st (below_st hb1.out (below_d1 (Below.refl _ _))) hb.out) | (with_reducible refine below_al ?_ _) | (with_reducible refine below_dr ?_ _) | (with_reducible refine below_d1 ?_) | ((with_reducible refine Below.setCell ?_ ?_ _); rotate_left; (next => first | (simp; done) | (simp; omega) | omega)))) (o1.out.below (by repeat (first | (with_reducible exact Below.refl _ _) | (with_reducible exact Below.refl _ _) | (with_reducible refine below_al ?_ _) | (with_reducible refine below_dr ?_ _) | (with_reducible refine below_d1 ?_) | ((with_reducible refine Below.setCell ?_ ?_ _); rotate_left; (next => first | (simp; done) | (simp; omega) | omega))))) n1.out (fun b hb => by have := l1.out b hb; (try simp at this); omega) ?_ ?_ (by omega) (by omega) (by omega) (fun h => by have := o1.out.lt _ h; omega) (fun h => by have := o1.out.lt _ h; omega), by repeat (first | (with_reducible exact Below.refl _ _) | (with_reducible exact below_st (below_st hb1.out (below_d1 (Below.refl _ _))) hb.out) | (with_reducible refine below_al ?_ _) | (with_reducible refine below_dr ?_ _) | (with_reducible refine below_d1 ?_) | ((with_reducible refine Below.setCell ?_ ?_ _); rotate_left; (next => first | (simp; done) | (simp; omega) | omega)))⟩
      · exact (heap_alloc_old _ _ (by simp)).trans (heap_alloc_new _ _)
      · simpa using heap_alloc_new (w2.alloc (.map #[] 0)) _
    · have zz : w1.heap.size + 1 ≤ w2.heap.size := by have := hb.out.size; (try simp at this); omega
      have hbb := Asd.mk (below_st (below_st hb1.out (show Below w1.heap.size w1 _ from by repeat (first | (with_reducible exact Below.refl _ _) | (with_reducible exact below_d1 (Below.refl _ _)) | (with_reducible refine below_al ?_ _) | (with_reducible refine below_dr ?_ _) | (with_reducible refine below_d1 ?_) | ((with_reducible refine Below.setCell ?_ ?_ _); rotate_left; (next => first | (simp; done) | (simp; omega) | omega))))) hb.out)
      refine ⟨w2.heap.size, _, by simp, Eng.start (m := w1.heap.size) h0.out (by repeat (first | (with_reducible exact Below.refl _ _) | (with_reducible exact hbb.out) | (with_reducible refine below_al ?_ _) | (with_reducible refine below_dr ?_ _) | (with_reducible refine below_d1 ?_) | ((with_reducible refine Below.setCell ?_ ?_ _); rotate_left; (next => first | (simp; done) | (simp; omega) | omega)))) (o1.out.below (by repeat (first | (with_reducible exact Below.refl _ _) | (with_reducible exact Below.refl _ _) | (with_reducible refine below_al ?_ _) | (with_reducible refine below_dr ?_ _) | (with_reducible refine below_d1 ?_) | ((with_reducible refine Below.setCell ?_ ?_ _); rotate_left; (next => first | (simp; done) | (simp; omega) | omega))))) n1.out (fun b hb => by have := l1.out b hb; (try simp at this); omega) ?_ ?_ (by omega) (by omega) (by omega) (fun h => by have := l1.out _ h; (try simp at this); omega) (fun h => by have := o1.out.lt _ h; omega), by repeat (first | (with_reducible exact Below.refl _ _) | (with_reducible exact hbb.out) | (with_reducible refine below_al ?_ _) | (with_reducible refine below_dr ?_ _) | (with_reducible refine below_d1 ?_) | ((with_reducible refine Below.setCell ?_ ?_ _); rotate_left; (next => first | (simp; done) | (simp; omega) | omega)))⟩
      · refine (heap_alloc_old _ _ (by omega)).trans ((hb.out.block _ (by simp)).trans ?_)
        exact heap_alloc_new _ _
      · exact heap_alloc_new _ _
  case rest =>
    obtain ⟨e, F, rfl, hE, hb⟩ := hcut
    replace hE := Asd.mk hE
    replace hb := Asd.mk hb
    clear hkeep c0 z1 hb1
    have he := hE.out.lt e hE.out.self
    go_wp2
    go_loopw [16] (fun i wr => ∃ (k : Nat) (F' : List Nat), k ≤ roots.length ∧ i = .int .i64 k ∧ Eng w.heap.size wr W roots (wants W [] (roots.take k)) e F' ∧ Below w.heap.size w wr) (fun i _ => roots.length - (intOf i).toNat)
    case atStart => exact ⟨0, F, by omega, rfl, hE.out, hb.out⟩
    case round =>
      obtain ⟨k, F', hk, rfl, hE', hb'⟩ := hrel
      by_cases hlt : k < roots.length
      · obtain ⟨a, c', he', hcell⟩ := str_elem (hv.out.below hb') hlt
        cases he'
        have e2 := Asd.mk (show wants W [] (roots.take (k + 1)) = want W (wants W [] (roots.take k)) roots[k] by unfold wants; rw [List.take_succ_eq_append_getElem hlt, List.foldl_append]; rfl)
        replace hE' := Asd.mk hE'
        replace hb' := Asd.mk hb'
        go_wp2_with fail
        refine (want_calls W roots _ e F' _ _ hE'.out ha.out hn).mono ?_
        rintro e' w3 ⟨rfl, F2, h1, h2, h3⟩
        go_wp2
        go_roundw
        case rel => exact ⟨k + 1, F2, by omega, by go_num, by rw [e2.out]; exact h1, (show Below w.heap.size w w3 from ⟨h2.os.trans hb'.out.os, h2.tape.trans hb'.out.tape, h2.output.trans hb'.out.output, Nat.le_trans hb'.out.size h2.size, fun b hbl => (h2.block b (Nat.lt_of_lt_of_le hbl hb'.out.size) (fun hf => by have := hE'.out.above b hf; omega)).trans (hb'.out.block b hbl)⟩)⟩
        case measure => simp [intOf]; omega
      · obtain rfl : k = roots.length := by omega
        have e2 := Asd.mk (show wants W [] (roots.take roots.length) = begin_ W roots by rw [List.take_length]; rfl)
        replace hE' := Asd.mk hE'
        go_wp2
        go_ret
        exact ⟨e, F', rfl, by rw [← e2.out]; exact hE'.out, hb'⟩
end Go.Proofs.Ytmjfkjdfmpileaa.M
end
section
set_option linter.unusedVariables false
set_option linter.unusedSimpArgs false
namespace Go.Proofs.Ytmjfkjdfmpileaa.M
open Go.RowKit
theorem delC_perm {L : List (ByteArray × Value)} (hn : (L.map (·.1)).Nodup) {p : ByteArray × Value} (hp : p ∈ L) : (p :: delC L p.1).Perm L := by
  induction L with
  | nil => cases hp
  | cons a L ih =>
    rw [List.map_cons, List.nodup_cons] at hn
    rcases List.mem_cons.1 hp with e | hp
    · subst e
      have : delC (p :: L) p.1 = L := by
        unfold delC
        rw [List.filter_cons, if_neg (by simp), List.filter_eq_self]
        intro r hr
        simp only [ne_eq, decide_eq_true_eq]
        exact fun e => hn.1 (by rw [← e]; exact List.mem_map.2 ⟨r, hr, rfl⟩)
      rw [this]
    · have hne : a.1 ≠ p.1 := fun e => hn.1 (by rw [e]; exact List.mem_map.2 ⟨p, hp, rfl⟩)
      have e2 : delC (a :: L) p.1 = a :: delC L p.1 := by
        unfold delC; rw [List.filter_cons, if_pos (by simp [hne])]
      rw [e2]
      exact (List.Perm.swap _ _ _).trans ((ih hn.2 hp).cons a)
theorem delC_nodup {L : List (ByteArray × Value)} (hn : (L.map (·.1)).Nodup) (q : ByteArray) : ((delC L q).map (·.1)).Nodup := by
  unfold delC
  exact List.Nodup.sublist (List.Sublist.map _ List.filter_sublist) hn
theorem ptr_keys {L : List Ent} : (ptrC L).map (·.1) = L.map fun x => x.r.Name := by unfold ptrC; rw [List.map_map]; rfl
def NamesI (C0 : List (ByteArray × Value)) (m r : Nat) (w : World) (v : Value) (wr : World) : Prop :=
  ∃ (xs : List ByteArray) (C : List (ByteArray × Value)), ItAt wr m r C0 C ∧ (xs ++ C.map (·.1)).Perm (C0.map (·.1)) ∧ Lie (r + 1) wr (strsT 9 xs) v ∧ Below w.heap.size w wr
theorem NamesI.step {C0 C : List (ByteArray × Value)} {xs : List ByteArray} {p : ByteArray × Value} (h : (xs ++ C.map (·.1)).Perm (C0.map (·.1))) (hn : (C0.map (·.1)).Nodup) (hp : p ∈ C) : ((xs ++ [p.1]) ++ (delC C p.1).map (·.1)).Perm (C0.map (·.1)) := by
  have hc : (C.map (·.1)).Nodup := (List.nodup_append.1 (h.nodup_iff.2 hn)).2.1
  have := (delC_perm hc hp).map (·.1)
  rw [List.append_assoc]
  exact (this.append_left xs).trans h
set_option maxRecDepth 100000 in
set_option maxHeartbeats 4000000 in
theorem names_calls {lo : Nat} (W : Web) (roots : List ByteArray) (R : List Run) (e : Nat) (F : List Nat) (w : World) (h : Eng lo w W roots R e F) (hR : R.length ≤ 1000000) :
    Calls Try.prog 95 #[.pointer (some ⟨e, 0, none⟩)] w (MadeV w (strsT 9 (R.map Run.Name))) := by
  obtain ⟨m, nv, rv, L, Fr, W0, tN, tS, tC, hX⟩ := h
  obtain ⟨A, c, B, d, rfl, rfl, _, _, c0, c1, c2⟩ := hX.cells
  obtain ⟨C0, hC0⟩ : ∃ C0, ptrC L = C0 := ⟨_, rfl⟩
  have hk := Asd.mk (show (C0.map (·.1)).Perm (R.map Run.Name) by rw [← hC0, ptr_keys]; exact ((hX.perm.map Run.Name).trans (by rw [List.map_map]; exact List.Perm.refl _)).symm)
  have hasc := Asd.mk hX.asc
  have hmap := Asd.mk (hC0 ▸ hX.map)
  have hnd := Asd.mk (hC0 ▸ hX.map).nodup
  have hlen := Asd.mk (show (C0.map (·.1)).length ≤ 1000000 by rw [hk.out.length_eq, List.length_map]; exact hR)
  have hmlt := hX.map.lt
  clear hX hC0
  go_enter Try.func95, Try.ntmps95
  go_wp2_with (at_range; refine wpMapRange rfl rfl Try.underlying129 rfl hmap.out ?_)
  intro w1 hI hb hz
  replace hI := Asd.mk hI
  replace hb := Asd.mk hb
  have hz1 : w.heap.size + 1 ≤ w1.heap.size := by omega
  clear hz c0 c1 c2
  have hmr : m ≠ w.heap.size := by omega
  go_wp2
  go_loopw [3] (fun v wr => NamesI C0 m w.heap.size w v wr) (fun _ wr => wr.rangeLeft m w.heap.size)
  case atStart => exact ⟨[], C0, hI.out, List.Perm.refl _, Lie.nil _ _ _ _, hb.out⟩
  case round =>
    obtain ⟨xs, C, hI2, hp, hL, hb2⟩ := hrel
    have hmes := Asd.mk hI2.left
    have hrl := hI2.lt
    replace hI2 := Asd.mk hI2
    replace hL := Asd.mk hL
    replace hb2 := Asd.mk hb2
    have hxl : xs.length ≤ 1000000 := by have h1 := hp.length_eq; have h2 := hlen.out; simp at h1 h2; omega
    replace hp := Asd.mk hp
    cases C with
    | nil =>
      go_wp2_with (at_next; refine wpMapNext0 rfl rfl rfl hI2.out hmr ?_)
      obtain ⟨Fo, o1, n1, l1⟩ := hL.out
      refine (Strings_calls xs (R.map Run.Name) _ Fo _ o1 (by simpa using hp.out.trans hk.out) hasc.out hxl).mono ?_
      rintro e' w3 ⟨rfl, o2, hm3⟩
      go_wp2
      go_ret
      refine ⟨_, rfl, ⟨Fo, o2, n1, fun k hk => by have := l1 k hk; omega⟩, ?_⟩
      exact ⟨hm3.os.trans hb2.out.os, hm3.tape.trans hb2.out.tape, hm3.output.trans hb2.out.output, Nat.le_trans hb2.out.size hm3.size, fun k hk => (hm3.block k (Nat.lt_of_lt_of_le hk hb2.out.size) (fun hf => by have := l1 k hf; omega)).trans (hb2.out.block k hk)⟩
    | cons p0 C =>
      obtain ⟨g0, g1, rfl, _, _⟩ := hL.out.slice
      go_wp2_with (at_next; refine wpMapNext1 rfl rfl rfl hI2.out hmr (by simp) ?_)
      intro q u w2 hp2 hI3 hO hen
      replace hp2 : (q, u) ∈ p0 :: C := by simpa using hp2
      replace hI3 := Asd.mk hI3
      have hL2 := Asd.mk (hL.out.far hO.far (by omega))
      have hb3 := Asd.mk (Far.trans hb2.out hO.far (by omega) hb2.out.size)
      have hz3 : w2.heap.size = wr.heap.size := hO.size
      have hz4 : w.heap.size + 1 ≤ w2.heap.size := by omega
      replace hz3 := Asd.mk hz3
      clear hO
      go_wp2_with (at_builtin; refine appStr rfl rfl rfl (lo := w.heap.size + 1) (wr := w2) hz4 hL2.out (by repeat (first | (with_reducible exact Below.refl _ _) | (with_reducible exact Below.refl _ _) | (with_reducible refine below_al ?_ _) | (with_reducible refine below_dr ?_ _) | (with_reducible refine below_d1 ?_) | ((with_reducible refine Below.setCell ?_ ?_ _); rotate_left; (next => first | (simp; done) | (simp; omega) | omega)))) rfl (heap_alloc_new _ _) hxl ?_)
      intro v7 w7 hL7 hF7
      have e9 := Asd.mk (NamesI.step hp.out hnd.out hp2)
      have hl9 := Asd.mk (delC_len hp2)
      have hI7 := Asd.mk ((hI3.out).move (w' := w7) ((hF7.block m (by have := hI3.out.map.lt; simp; omega) (.inl (by omega))).trans (heap_alloc_old _ _ hI3.out.map.lt)) ((hF7.block w.heap.size (by simp; omega) (.inl (by omega))).trans (heap_alloc_old _ _ (by omega))))
      have hb7 := Asd.mk (Far.trans (show Below w.heap.size w _ from by repeat (first | (with_reducible exact Below.refl _ _) | (with_reducible exact hb3.out) | (with_reducible refine below_al ?_ _) | (with_reducible refine below_dr ?_ _) | (with_reducible refine below_d1 ?_) | ((with_reducible refine Below.setCell ?_ ?_ _); rotate_left; (next => first | (simp; done) | (simp; omega) | omega)))) hF7 (by omega) (by simp; omega))
      clear hen hp2
      replace hL7 := Asd.mk hL7
      clear hF7
      go_wp2
      go_roundw
      case rel => exact ⟨xs ++ [q], delC (p0 :: C) q, hI7.out, e9.out, hL7.out, hb7.out⟩
      case measure => rw [hI7.out.left, hmes.out]; exact hl9.out
end Go.Proofs.Ytmjfkjdfmpileaa.M
end
section
set_option linter.unusedVariables false
set_option linter.unusedSimpArgs false
namespace Go.Proofs.Ytmjfkjdfmpileaa.M
open Go.RowKit
theorem heap_set1 {w : World} {b : Nat} {cs : Array Value} {ty : TypeId} {fr : Nat × Nat} (h : w.heap[b]? = some (.cells cs ty fr)) (i : Nat) (v : Value) : (w.setCell ⟨b, i, none⟩ v).heap[b]? = some (.cells (cs.setIfInBounds i v) ty fr) := by
  simp [World.setCell, Array.getElem?_modify, h]
theorem RunsT_snoc (t : Nat) (xs : List Run) (x : Run) : RunsT t (xs ++ [x]) = .l t 7 (xs.length + 1) (xs.flatMap Run.c ++ Run.c x) := by
  unfold RunsT tl; rw [List.length_append, List.flatMap_append]; simp
theorem EngX.run_at {lo : Nat} {w : World} {W : Web} {roots : List ByteArray} {R : List Run} {e : Nat} {F : List Nat} {m : Nat} {nv rv : Value} {L : List Ent} {Fr : List Nat} {W0 : World} {tN tS tC : Nat} (h : EngX lo w W roots R e F m nv rv L Fr W0 tN tS tC) {q : ByteArray} {r : Run} (hq : runOf R q = some r) :
    ∃ (x : Ent) (A : Option Addr) (c : Nat), x ∈ L ∧ x.r = r ∧ x.v = .slice A r.Texts.length c ∧ (Instr.lookup 129 (.map (some m)) (.string q) false).run Try.prog w = .ok (.pointer (some ⟨x.b, 0, none⟩)) w ∧ w.cell? ⟨x.b, 0, none⟩ = some (.string r.Name) ∧ w.cell? ⟨x.b, 1, none⟩ = some (.bool r.Over) ∧ w.cell? ⟨x.b, 2, none⟩ = some (.bool r.Fail) ∧
      w.cell? ⟨x.b, 3, none⟩ = some (.string r.Text) ∧ w.cell? ⟨x.b, 4, none⟩ = some (.int .i64 r.At) ∧ w.cell? ⟨x.b, 5, none⟩ = some (.int .i64 r.Visits) ∧ w.cell? ⟨x.b, 6, none⟩ = some (.slice A r.Texts.length c) ∧ rep w (strsT 9 r.Texts) (.slice A r.Texts.length c) := by
  obtain ⟨x, hx, rfl, hl⟩ := h.run_some hq
  obtain ⟨h1, h2⟩ := h.runs x hx
  obtain ⟨A, c, hv, _, _⟩ := own_slice h2
  have h3 := h2.rep
  rw [hv] at h3 h1
  exact ⟨x, A, c, hx, rfl, hv, hl, cellOf h1 rfl, cellOf h1 rfl, cellOf h1 rfl, cellOf h1 rfl, cellOf h1 rfl, cellOf h1 rfl, cellOf h1 rfl, h3⟩
def StateP (roots : List ByteArray) (R : List Run) (w : World) (e' : Ending) (w' : World) : Prop := ∃ v0 v1, e' = .returned (.agg #[v0, v1]) ∧ Mades w w' (State.c 126 ⟨roots, R⟩) [v0, v1] ∧ Below w.heap.size w w'
theorem mades_state {w w' : World} {roots : List ByteArray} {R : List Run} {v0 v1 : Value} {lo : Nat} {F0 : List Nat} (o0 : own w' (strsT 9 roots) v0 F0) (n0 : F0.Nodup) (g0 : ∀ k ∈ F0, w.heap.size ≤ k ∧ k < lo)
    (h1 : Lie lo w' (RunsT 126 R) v1) (hl : w.heap.size ≤ lo) : Mades w w' (State.c 126 ⟨roots, R⟩) [v0, v1] := by
  obtain ⟨F1, o1, n1, l1⟩ := h1
  refine ⟨F0 ++ F1, State.omk (x := ⟨roots, R⟩) o0 o1, nod2 n0 n1 (fun k hk hk' => by have := g0 k hk; have := l1 k hk'; omega), mem2 (fun k hk => (g0 k hk).1) (fun k hk => Nat.le_trans hl (l1 k hk))⟩
def StI (W : Web) (roots : List ByteArray) (R : List Run) (e : Nat) (F : List Nat) (lo : Nat) (w : World) (b3 : Nat) (A0 : Option Addr) (c0 : Nat) (F0 : List Nat) (lo2 k : Nat) (wr : World) : Prop :=
  ∃ v, wr.heap[w.heap.size]? = some (.cells #[.slice none 0 0, .slice none 0 0] 60 (0, 0)) ∧ wr.heap[b3]? = some (.cells #[.slice A0 roots.length c0, v] 60 (0, 0)) ∧ Lie lo2 wr (RunsT 126 (tkTo R k)) v ∧ own wr (strsT 9 roots) (.slice A0 roots.length c0) F0 ∧ Below w.heap.size w wr
set_option maxRecDepth 100000 in
set_option maxHeartbeats 4000000 in
theorem state_calls {lo : Nat} (W : Web) (roots : List ByteArray) (R : List Run) (e : Nat) (F : List Nat) (w : World) (h : Eng lo w W roots R e F) (hR : R.length ≤ 1000000) (hro : roots.length ≤ 1000000) (hT : ∀ r ∈ R, r.Texts.length ≤ 1000000) :
    Calls Try.prog 64 #[.pointer (some ⟨e, 0, none⟩)] w (StateP roots R w) := by
  have hE := Asd.mk h
  obtain ⟨m, nv, rv, L, Fr, W0, tN, tS, tC, hX⟩ := h
  obtain ⟨A, c, B, d, rfl, rfl, _, _, c0, c1, c2⟩ := hX.cells
  have he := hX.lt e (by rw [hX.foot]; simp)
  have hro2 := Asd.mk hX.roots.rep
  replace hX := Asd.mk hX
  go_enter Try.func64, Try.ntmps64
  go_wp2_with fail
  refine (CloneStr_calls roots _ _ (hro2.out.below (by repeat (first | (with_reducible exact Below.refl _ _) | (with_reducible exact Below.refl _ _) | (with_reducible refine below_al ?_ _) | (with_reducible refine below_dr ?_ _) | (with_reducible refine below_d1 ?_) | ((with_reducible refine Below.setCell ?_ ?_ _); rotate_left; (next => first | (simp; done) | (simp; omega) | omega))))) (by omega)).mono ?_
  rintro e' w1 ⟨v1, rfl, ⟨F0, o0, n0, l0⟩, hb⟩
  obtain ⟨A0, d0, rfl, _, _⟩ := own_slice o0
  obtain ⟨hcx, hfx⟩ := bcell hb
  have hz1 : w.heap.size + 1 ≤ w1.heap.size := by have := hb.size; simp at this; omega
  have hA1 := Asd.mk ((hb.block w.heap.size (by simp)).trans (heap_alloc_new _ _))
  have hb1 := Asd.mk (below_st (show Below w.heap.size w _ from by repeat (first | (with_reducible exact Below.refl _ _) | (with_reducible exact Below.refl _ _) | (with_reducible refine below_al ?_ _) | (with_reducible refine below_dr ?_ _) | (with_reducible refine below_d1 ?_) | ((with_reducible refine Below.setCell ?_ ?_ _); rotate_left; (next => first | (simp; done) | (simp; omega) | omega)))) hb)
  have hl0 := Asd.mk o0.lt
  replace o0 := Asd.mk o0
  replace l0 := Asd.mk l0
  clear hb
  go_wp2_with fail
  refine (names_calls W roots R e F _ (hE.out.later (by repeat (first | (with_reducible exact Below.refl _ _) | (with_reducible exact hb1.out) | (with_reducible refine below_al ?_ _) | (with_reducible refine below_dr ?_ _) | (with_reducible refine below_d1 ?_) | ((with_reducible refine Below.setCell ?_ ?_ _); rotate_left; (next => first | (simp; done) | (simp; omega) | omega))))) hR).mono ?_
  obtain ⟨ns, hns⟩ : ∃ ns, R.map Run.Name = ns := ⟨_, rfl⟩
  have hnl := Asd.mk (show ns.length = R.length by rw [← hns, List.length_map])
  have hnk := Asd.mk (show ∀ k (h : k < ns.length) (h' : k < R.length), ns[k] = R[k].Name by subst hns; intro k h h'; simp)
  rw [hns]
  clear hns
  rintro e' w2 ⟨v2, rfl, ⟨Fn, on, nn, ln⟩, hb⟩
  obtain ⟨A2, d2, rfl, _, _⟩ := own_slice on
  have hB2 := Asd.mk ((hb.block w1.heap.size (by simp)).trans (heap_alloc_new _ _))
  have hA2 := Asd.mk ((hb.block w.heap.size (by simp; omega)).trans ((heap_alloc_old _ _ (by omega)).trans hA1.out))
  have o2 := Asd.mk (o0.out.below (below_st (show Below w1.heap.size w1 _ from by repeat (first | (with_reducible exact Below.refl _ _) | (with_reducible exact Below.refl _ _) | (with_reducible refine below_al ?_ _) | (with_reducible refine below_dr ?_ _) | (with_reducible refine below_d1 ?_) | ((with_reducible refine Below.setCell ?_ ?_ _); rotate_left; (next => first | (simp; done) | (simp; omega) | omega)))) hb))
  have hb2 := Asd.mk (below_st (show Below w.heap.size w _ from by repeat (first | (with_reducible exact Below.refl _ _) | (with_reducible exact hb1.out) | (with_reducible refine below_al ?_ _) | (with_reducible refine below_dr ?_ _) | (with_reducible refine below_d1 ?_) | ((with_reducible refine Below.setCell ?_ ?_ _); rotate_left; (next => first | (simp; done) | (simp; omega) | omega)))) hb)
  have hnr := Asd.mk (fun (X : World) (g : MFr [w1.heap.size] w2 X) => (g.own on (fun b hb h => by have := ln b hb; simp at h this; omega)).rep)
  have hz2 : w1.heap.size + 1 ≤ w2.heap.size := by have := hb.size; simp at this; omega
  clear hb on ln nn hcx hfx c0 c1 c2
  have hns2 : ns.length ≤ 9223372036854775807 := by have := hnl.out; omega
  obtain ⟨m1, hm1⟩ : ∃ m1, m1 = m := ⟨_, rfl⟩
  go_wp2
  go_loopw [16] (fun i wr => ∃ k : Nat, k ≤ ns.length ∧ i = .int .i64 k ∧ StI W roots R e F lo w w1.heap.size A0 d0 F0 w2.heap.size k wr ∧ MFr [w1.heap.size] w2 wr) (fun i _ => ns.length - (intOf i).toNat)
  case atStart => exact ⟨0, by omega, rfl, ⟨_, hA2.out, hB2.out, by rw [tkTo_zero]; exact Lie.nil _ _ _ _, o2.out, hb2.out⟩, MFr.refl _ _⟩
  case round =>
    obtain ⟨k, hk, rfl, ⟨v, gA, gB, gL, gO, gb⟩, gn⟩ := hrel
    by_cases hlt : k < ns.length
    · have hkR : k < R.length := by have := hnl.out; omega
      obtain ⟨a, c', he', hcell⟩ := str_elem (hnr.out wr gn) hlt
      cases he'
      obtain ⟨r, hr⟩ : ∃ r, R[k] = r := ⟨_, rfl⟩
      have e1 := Asd.mk (show tkTo R (k + 1) = tkTo R k ++ [r] by rw [tkTo_succ hkR, hr])
      have hrm : r ∈ R := hr ▸ List.getElem_mem hkR
      have hT' := hT r hrm
      have hq : runOf R ns[k] = some r := by rw [hnk.out k hlt hkR, hr]; exact runOf_mem hX.out.asc hrm
      obtain ⟨x, Ax, cx, hx, hxr, hxv, hl, x0, x1, x2, x3, x4, x5, x6, hxt⟩ := (hX.out.later gb).run_at hq
      obtain ⟨y0, y1, y2⟩ : wr.cell? ⟨e, 0, none⟩ = some (.slice A W.Nodes.length c) ∧ wr.cell? ⟨e, 1, none⟩ = some (.slice B roots.length d) ∧ wr.cell? ⟨e, 2, none⟩ = some (.map (some m)) := by
        have hXr := (hX.out.later gb).eng
        exact ⟨cellOf hXr rfl, cellOf hXr rfl, cellOf hXr rfl⟩
      obtain ⟨Av, cv, rfl, hvl, _⟩ := gL.slice
      have b1 := cellOf gB (i := 1) rfl
      have f1 := frozenOf gB 1
      have s1 : w1.heap.size < wr.heap.size := lt_of_heap gB
      have hxb : x.b < wr.heap.size := World.block_lt_of_cell? _ _ x0
      have hlen := Nat.le_trans (tkTo_len R k) (Nat.le_trans (Nat.le_of_lt hkR) hR)
      replace gL := Asd.mk gL
      replace gA := Asd.mk gA
      replace gB := Asd.mk gB
      replace gO := Asd.mk gO
      replace gb := Asd.mk gb
      have s2 : w2.heap.size ≤ wr.heap.size := gn.size
      replace gn := Asd.mk gn
      replace hxt := Asd.mk hxt
      clear hq hx hxr hxv hr
      go_wp2_with fail
      refine (CloneStr_calls r.Texts _ _ (hxt.out.below (by repeat (first | (with_reducible exact Below.refl _ _) | (with_reducible exact Below.refl _ _) | (with_reducible refine below_al ?_ _) | (with_reducible refine below_dr ?_ _) | (with_reducible refine below_d1 ?_) | ((with_reducible refine Below.setCell ?_ ?_ _); rotate_left; (next => first | (simp; done) | (simp; omega) | omega))))) (by omega)).mono ?_
      rintro e' w3 ⟨v3, rfl, ⟨F3, o3, n3, l3⟩, hb⟩
      obtain ⟨A3, d3, rfl, _, _⟩ := own_slice o3
      obtain ⟨hcx, hfx⟩ := bcell hb
      have z3 : wr.heap.size + 1 ≤ w3.heap.size := by have := hb.size; simp at this; omega
      have hb3 := Asd.mk (below_st (show Below wr.heap.size wr _ from by repeat (first | (with_reducible exact Below.refl _ _) | (with_reducible exact Below.refl _ _) | (with_reducible refine below_al ?_ _) | (with_reducible refine below_dr ?_ _) | (with_reducible refine below_d1 ?_) | ((with_reducible refine Below.setCell ?_ ?_ _); rotate_left; (next => first | (simp; done) | (simp; omega) | omega)))) hb)
      have hu3 : Asd (Lies (wr.heap.size + 1) w3 (Run.c r) [.string r.Name, .bool r.Over, .bool r.Fail, .string r.Text, .int .i64 r.At, .int .i64 r.Visits, .slice A3 r.Texts.length d3]) := Asd.mk ⟨F3, Run.omk r o3, n3, fun q hq => by have := l3 q hq; simpa using this⟩
      clear hb o3 l3 n3
      go_wp2_with (at_builtin; refine appL rfl rfl Try.underlying58 info_Run rfl (by decide) rfl (lo := w2.heap.size) (wr := wr) s2 gL.out (by repeat (first | (with_reducible exact Below.refl _ _) | (with_reducible exact hb3.out) | (with_reducible refine below_al ?_ _) | (with_reducible refine below_dr ?_ _) | (with_reducible refine below_d1 ?_) | ((with_reducible refine Below.setCell ?_ ?_ _); rotate_left; (next => first | (simp; done) | (simp; omega) | omega)))) rfl (one_cells (heap_new_set _ _ _ _)) (by simp) (((hu3.out.set (p := ⟨wr.heap.size, 6, none⟩) (by simp) _).mono (by omega)).below (below_al (Below.refl _ _) _)) (by simp [maxLen]; omega) (by omega) ?_)
      intro v7 w7 hL7 hF7
      obtain ⟨A7, d7, rfl, _, _⟩ := hL7.slice
      have hold := Asd.mk (fun b (hb : b < wr.heap.size) => show ((w3.setCell ⟨wr.heap.size, 6, none⟩ (.slice A3 r.Texts.length d3)).alloc (.cells #[.string r.Name, .bool r.Over, .bool r.Fail, .string r.Text, .int .i64 r.At, .int .i64 r.Visits, .slice A3 r.Texts.length d3] 126)).heap[b]? = wr.heap[b]? from (show Below wr.heap.size wr _ from by repeat (first | (with_reducible exact Below.refl _ _) | (with_reducible exact hb3.out) | (with_reducible refine below_al ?_ _) | (with_reducible refine below_dr ?_ _) | (with_reducible refine below_d1 ?_) | ((with_reducible refine Below.setCell ?_ ?_ _); rotate_left; (next => first | (simp; done) | (simp; omega) | omega)))).block b hb)
      have h7 := Asd.mk (fun b (hb : b < w2.heap.size) => (hF7.block b (by simp; omega) (.inl hb)).trans (hold.out b (by omega)))
      have gB7 := Asd.mk ((h7.out w1.heap.size (by omega)).trans gB.out)
      have t0 := cellOf gB7.out (i := 1) rfl
      have t1 := frozenOf gB7.out 1
      have gA7 := Asd.mk ((h7.out w.heap.size (by omega)).trans gA.out)
      have gO7 := Asd.mk (gO.out.move (w1 := w7) (fun b hb => h7.out b (by have := hl0.out b hb; omega)))
      have hb7 := Asd.mk (Far.trans (show Below w.heap.size w _ from by repeat (first | (with_reducible exact Below.refl _ _) | (with_reducible exact below_st gb.out hb3.out) | (with_reducible refine below_al ?_ _) | (with_reducible refine below_dr ?_ _) | (with_reducible refine below_d1 ?_) | ((with_reducible refine Below.setCell ?_ ?_ _); rotate_left; (next => first | (simp; done) | (simp; omega) | omega)))) hF7 (by omega) (by simp; omega))
      have hn7 := Asd.mk (show MFr [w1.heap.size] w2 w7 from ⟨hF7.os.trans ((show Below wr.heap.size wr _ from by repeat (first | (with_reducible exact Below.refl _ _) | (with_reducible exact hb3.out) | (with_reducible refine below_al ?_ _) | (with_reducible refine below_dr ?_ _) | (with_reducible refine below_d1 ?_) | ((with_reducible refine Below.setCell ?_ ?_ _); rotate_left; (next => first | (simp; done) | (simp; omega) | omega)))).os.trans gn.out.os), hF7.tape.trans ((show Below wr.heap.size wr _ from by repeat (first | (with_reducible exact Below.refl _ _) | (with_reducible exact hb3.out) | (with_reducible refine below_al ?_ _) | (with_reducible refine below_dr ?_ _) | (with_reducible refine below_d1 ?_) | ((with_reducible refine Below.setCell ?_ ?_ _); rotate_left; (next => first | (simp; done) | (simp; omega) | omega)))).tape.trans gn.out.tape), hF7.output.trans ((show Below wr.heap.size wr _ from by repeat (first | (with_reducible exact Below.refl _ _) | (with_reducible exact hb3.out) | (with_reducible refine below_al ?_ _) | (with_reducible refine below_dr ?_ _) | (with_reducible refine below_d1 ?_) | ((with_reducible refine Below.setCell ?_ ?_ _); rotate_left; (next => first | (simp; done) | (simp; omega) | omega)))).output.trans gn.out.output), Nat.le_trans s2 (Nat.le_trans (by simp; omega) hF7.size), fun b hb hn => (h7.out b hb).trans (gn.out.block b hb hn)⟩)
      replace hL7 := Asd.mk hL7
      have z7 : wr.heap.size ≤ w7.heap.size := by have := hF7.size; simp at this; omega
      clear hF7 hcx hfx h7 hold
      go_wp2
      go_roundw
      case rel =>
        refine ⟨k + 1, by omega, by go_num, ⟨_, (Below.heap_setCell _ _ _ _ (by simp; omega)).trans gA7.out, heap_set1 gB7.out 1 _, by rw [e1.out, RunsT_snoc]; exact hL7.out.set (by simp; omega) _, gO7.out.set (fun h => by have := hl0.out _ h; simp at this) _, by repeat (first | (with_reducible exact Below.refl _ _) | (with_reducible exact hb7.out) | (with_reducible refine below_al ?_ _) | (with_reducible refine below_dr ?_ _) | (with_reducible refine below_d1 ?_) | ((with_reducible refine Below.setCell ?_ ?_ _); rotate_left; (next => first | (simp; done) | (simp; omega) | omega)))⟩, hn7.out.trans (MFr.of_set _ (by simp))⟩
      case measure => simp [intOf]; omega
    · obtain rfl : k = ns.length := by omega
      have e1 := Asd.mk (show tkTo R ns.length = R by rw [hnl.out]; exact tkTo_end R)
      obtain ⟨Av, cv, rfl, hvl, _⟩ := gL.slice
      have b0 := cellOf gB (i := 0) rfl
      have b1 := cellOf gB (i := 1) rfl
      have a0 := cellOf gA (i := 0) rfl
      have a1 := cellOf gA (i := 1) rfl
      have f0 := frozenOf gA 0
      have f1 := frozenOf gA 1
      replace gL := Asd.mk gL
      replace gO := Asd.mk gO
      replace gb := Asd.mk gb
      clear gA gB gn
      have hw : w.heap.size < wr.heap.size := World.block_lt_of_cell? _ _ a0
      have hrl : (tkTo R ns.length).length ≤ 1000000 := by rw [e1.out]; exact hR
      go_wp2
      refine bodyPost_ret (v := .agg #[.slice A0 roots.length d0, .slice Av (tkTo R ns.length).length cv]) (by simp [results, Try.results64, go_sem, *]) rfl ?_
      have hq := Asd.mk ((MFr.of_set (F := [w.heap.size]) (w := wr) (p := ⟨w.heap.size, 0, none⟩) (.slice A0 roots.length d0) (by simp)).trans (MFr.of_set (p := ⟨w.heap.size, 1, none⟩) (.slice Av (tkTo R ns.length).length cv) (by simp)))
      refine ⟨_, _, rfl, mades_state (lo := w2.heap.size) (F0 := F0) (hq.out.own gO.out (fun b hb h => by have := l0.out b hb; simp at h this; omega)) n0 (fun b hb => ⟨by have := l0.out b hb; simp at this; omega, by have := hl0.out b hb; omega⟩) ?_ (by omega), by repeat (first | (with_reducible exact Below.refl _ _) | (with_reducible exact gb.out) | (with_reducible refine below_al ?_ _) | (with_reducible refine below_dr ?_ _) | (with_reducible refine below_d1 ?_) | ((with_reducible refine Below.setCell ?_ ?_ _); rotate_left; (next => first | (simp; done) | (simp; omega) | omega)))⟩
      have hq2 := (gL.out.set (p := ⟨w.heap.size, 0, none⟩) (by show w.heap.size < w2.heap.size; omega) (.slice A0 roots.length d0)).set (p := ⟨w.heap.size, 1, none⟩) (by show w.heap.size < w2.heap.size; omega) (.slice Av (tkTo R ns.length).length cv)
      rw [e1.out] at hq2 ⊢
      exact hq2
end Go.Proofs.Ytmjfkjdfmpileaa.M
end
section
set_option linter.unusedVariables false
set_option linter.unusedSimpArgs false
namespace Go.Proofs.Ytmjfkjdfmpileaa.M
open Go.RowKit
def RunsP (lo : Nat) (N : List Nat) (R : List Run) (w : World) (e : Ending) (w' : World) : Prop := ∃ v, e = .returned v ∧ RowN N lo w' 126 7 R.length (R.flatMap Run.c) v ∧ Below w.heap.size w w'
theorem flat_snoc (R : List Run) (r : Run) : (R ++ [r]).flatMap Run.c = R.flatMap Run.c ++ Run.c r := by rw [List.flatMap_append]; simp
theorem MFr.upon {B : Nat} {N : List Nat} {W w w' : World} (h : MFr N w w') (hb : Below B W w) (hB : B ≤ W.heap.size) (hN : ∀ b ∈ N, B ≤ b) : Below B W w' := hb.trans (h.below (Nat.le_trans hB hb.size) hN)
theorem cell_lt0 {w : World} {p : Addr} {u : Value} (h : w.cell? p = some u) : p.block < w.heap.size := by
  rcases Nat.lt_or_ge p.block w.heap.size with h1 | h1
  · exact h1
  · simp [World.cell?, Array.getElem?_eq_none_iff.2 h1] at h
theorem Run.elemS {N : List Nat} {tR : Nat} {w : World} {R : List Run} {v : Value} (h : repS N w (RunsT tR R) v) (hd : ∀ k, v.ownBlock = some k → k ∉ N) {i : Nat} (hi : i < R.length) :
    ∃ a c v6, v = .slice (some a) R.length c ∧ w.cell? (a.add (i * 7)) = some (.string R[i].Name) ∧ w.cell? ⟨(a.add (i * 7)).block, (a.add (i * 7)).off + 1, none⟩ = some (.bool R[i].Over) ∧ w.cell? ⟨(a.add (i * 7)).block, (a.add (i * 7)).off + 2, none⟩ = some (.bool R[i].Fail) ∧ w.cell? ⟨(a.add (i * 7)).block, (a.add (i * 7)).off + 3, none⟩ = some (.string R[i].Text) ∧ w.cell? ⟨(a.add (i * 7)).block, (a.add (i * 7)).off + 4, none⟩ = some (.int .i64 R[i].At) ∧ w.cell? ⟨(a.add (i * 7)).block, (a.add (i * 7)).off + 5, none⟩ = some (.int .i64 R[i].Visits) ∧ w.cell? ⟨(a.add (i * 7)).block, (a.add (i * 7)).off + 6, none⟩ = some v6 ∧ rep w (strsT 9 R[i].Texts) v6 ∧ repsS N w (Run.c R[i]) [.string R[i].Name, .bool R[i].Over, .bool R[i].Fail, .string R[i].Text, .int .i64 R[i].At, .int .i64 R[i].Visits, v6] := by
  obtain ⟨a, c, v6, he, k0, k1, k2, k3, k4, k5, k6, hk6, _⟩ := Run.elem h.rep hi
  refine ⟨a, c, v6, he, k0, k1, k2, k3, k4, k5, k6, hk6, fun w' hm => ?_⟩
  obtain ⟨a', c', v6', he', j0, j1, j2, j3, j4, j5, j6, _, hr⟩ := Run.elem (h w' hm) hi
  rw [he] at he'
  cases he'
  have hb := hm.block _ (cell_lt0 k6) (hd _ (by rw [he]; simp only [Value.ownBlock, Addr.add]; split <;> rfl))
  have e6 := (World.cell?_of_block hb).symm.trans j6
  rw [k6] at e6
  cases e6
  exact hr
theorem putS_no {r x : Run} {acc : List Run} {d : Bool} (h : d = true ∨ ltS x.Name r.Name = true) : putA r (acc, d) x = (acc, d) := by
  unfold putA; rcases h with h | h <;> simp [h]
theorem putS_yes {r x : Run} {acc : List Run} (h : ltS x.Name r.Name = false) : putA r (acc, false) x = (acc ++ [r], true) := by
  unfold putA; simp [h]
theorem putB_eq {r x : Run} {st : List Run × Bool} (h : x.Name = r.Name) : putB r st x = st := by unfold putB; rw [(rIs_iff _ _).2 h]; rfl
theorem putB_ne {r x : Run} {st : List Run × Bool} (h : x.Name ≠ r.Name) : putB r st x = (st.1 ++ [x], st.2) := by unfold putB; rw [rIs_ne h]; rfl
set_option maxRecDepth 100000 in
set_option maxHeartbeats 4000000 in
theorem l4Put_calls {N : List Nat} {tR : Nat} (R : List Run) (r : Run) (v : Value) (w : World) {us : List Value} (h : repS N w (RunsT tR R) v) (hd : ∀ k, v.ownBlock = some k → k ∉ N) (h' : reps w (Run.c r) us) (hN : ∀ b ∈ N, b < w.heap.size) (hR : R.length ≤ 100000) (hT : r.Texts.length ≤ 1000000) :
    Calls Try.prog 92 #[v, .agg us.toArray] w (RunsP w.heap.size N (putL R r) w) := by
  obtain ⟨A, c, rfl, _, _⟩ := rep_len h.rep
  obtain ⟨v6, rfl, h6⟩ := Run.ropen h'
  obtain ⟨B, d, rfl, _, _⟩ := rep_len h6
  replace h := Asd.mk h
  replace h6 := Asd.mk h6
  replace hd := Asd.mk hd
  replace hN := Asd.mk hN
  clear h'
  go_enter Try.func92, Try.ntmps92
  go_upto_region 1 with (fail)
  obtain ⟨X, eX⟩ : ∃ X : World, X = w.alloc (.cells #[.string r.Name, .bool r.Over, .bool r.Fail, .string r.Text, .int .i64 r.At, .int .i64 r.Visits, .slice B r.Texts.length d] 126) := ⟨_, rfl⟩
  rw [← eX]
  have hbX := Asd.mk (show Below w.heap.size w X from eX ▸ below_al (Below.refl _ _) _)
  have hX := Asd.mk (show X.heap[w.heap.size]? = _ from eX ▸ heap_alloc_new _ _)
  have zX : w.heap.size < X.heap.size := by rw [eX]; simp
  have x6 := cellOf hX.out (i := 6) rfl
  clear eX
  go_wp2_with (at_builtin; refine appNew rfl rfl rfl rfl rfl (h6.out.below hbX.out) hT ?_)
  intro v1 w1 hL1 hb1 hz1
  obtain ⟨B1, d1, rfl, _, _⟩ := hL1.slice
  have hX1 := Asd.mk ((hb1.block _ zX).trans hX.out)
  have x61 := cellOf hX1.out (i := 6) rfl
  have f61 := frozenOf hX1.out 6
  replace hb1 := Asd.mk hb1
  replace hL1 := Asd.mk hL1
  clear x6
  go_upto_region 2 with (fail)
  obtain ⟨X2, eX⟩ : ∃ X2 : World, X2 = w1.setCell ⟨w.heap.size, 6, none⟩ (.slice B1 r.Texts.length d1) := ⟨_, rfl⟩
  rw [← eX]
  have hbX2 := Asd.mk (show Below w.heap.size w X2 from eX ▸ (below_st hbX.out hb1.out).setCell (by simp) _)
  have hX2 := Asd.mk (show X2.heap[w.heap.size]? = _ from eX ▸ heap_set1 hX1.out 6 _)
  have zX2 : w.heap.size < X2.heap.size := by rw [eX]; simp; omega
  have hr2 := Asd.mk (show repS N X2 (strsT 9 r.Texts) (.slice B1 r.Texts.length d1) from by
    rw [eX]
    obtain ⟨F, f1, f2, f3⟩ := hL1.out.set (p := ⟨w.heap.size, 6, none⟩) zX (.slice B1 r.Texts.length d1)
    exact repS.of_own f1 (fun b hb hn => by have h1 := f3 b hb; have h2 := hN.out b hn; omega))
  clear eX hX hX1 hbX hb1 hL1 x61 f61
  have hrr := Asd.mk (show repsS N X2 (Run.c r) _ from fun w2 h2 => Run.rmk r (hr2.out w2 h2))
  have hbox := Asd.mk (fun (Z : World) (hb : Below X2.heap.size X2 Z) => (⟨cell_below hb (cellOf hX2.out (i := 0) rfl), cell_below hb (cellOf hX2.out (i := 1) rfl), cell_below hb (cellOf hX2.out (i := 2) rfl), cell_below hb (cellOf hX2.out (i := 3) rfl), cell_below hb (cellOf hX2.out (i := 4) rfl), cell_below hb (cellOf hX2.out (i := 5) rfl), cell_below hb (cellOf hX2.out (i := 6) rfl)⟩ : Z.cell? ⟨w.heap.size, 0, none⟩ = some (.string r.Name) ∧ Z.cell? ⟨w.heap.size, 1, none⟩ = some (.bool r.Over) ∧ Z.cell? ⟨w.heap.size, 2, none⟩ = some (.bool r.Fail) ∧ Z.cell? ⟨w.heap.size, 3, none⟩ = some (.string r.Text) ∧ Z.cell? ⟨w.heap.size, 4, none⟩ = some (.int .i64 r.At) ∧ Z.cell? ⟨w.heap.size, 5, none⟩ = some (.int .i64 r.Visits) ∧ Z.cell? ⟨w.heap.size, 6, none⟩ = some (.slice B1 r.Texts.length d1)))
  go_wp2
  go_loopw [5, 6, 7] (fun s5 s6 i wr => ∃ (k : Nat) (acc : List Run) (d : Bool), k ≤ R.length ∧ i = .int .i64 k ∧ s6 = .bool d ∧ putK R r k = (acc, d) ∧ RowN N X2.heap.size wr 126 7 acc.length (acc.flatMap Run.c) s5 ∧ Below X2.heap.size X2 wr) (fun _ _ i _ => R.length - (intOf i).toNat)
  case atStart => exact ⟨0, [], false, by omega, rfl, rfl, putK_zero _ _, RowN.empty N X2 126 7, by repeat (first | (with_reducible exact Below.refl _ _) | (with_reducible exact Below.refl _ _) | (with_reducible refine below_al ?_ _) | (with_reducible refine below_dr ?_ _) | (with_reducible refine below_d1 ?_) | ((with_reducible refine Below.setCell ?_ ?_ _); rotate_left; (next => first | (simp; done) | (simp; omega) | omega)))⟩
  case round =>
    obtain ⟨k, acc, d, hk, rfl, rfl, hp, hRw, hbr⟩ := hrel
    have hal : acc.length ≤ 200000 := by have := putK_len R r k; rw [hp] at this; simp at this; omega
    obtain ⟨Ac, dc, rfl, hdc⟩ := hRw.slice
    by_cases hlt : k < R.length
    · obtain ⟨a, c', v6, he, k0, k1, k2, k3, k4, k5, k6, hk6, hkr⟩ := Run.elemS (h.out.go (MFr.of_below hbX2.out)) hd.out hlt
      cases he
      obtain ⟨Bk, dk, rfl, _, _⟩ := rep_len hk6
      have e1 := Asd.mk (putK_succ (r := r) hlt)
      rw [hp] at e1
      replace hkr := Asd.mk hkr
      replace hRw := Asd.mk hRw
      replace hbr := Asd.mk hbr
      clear hk6
      cases d with
      | true =>
        have hA := putS_no (r := r) (x := R[k]) (acc := acc) (d := true) (.inl rfl)
        replace hA := Asd.mk hA
        obtain ⟨g0, g1, g2, g3, g4, g5, g6⟩ := hbox.out wr hbr.out
        have q0 := cell_below hbr.out k0
        have q1 := cell_below hbr.out k1
        have q2 := cell_below hbr.out k2
        have q3 := cell_below hbr.out k3
        have q4 := cell_below hbr.out k4
        have q5 := cell_below hbr.out k5
        have q6 := cell_below hbr.out k6
        go_wp2
        go_quiet (fail)
        by_cases hn : R[k].Name = r.Name
        · have he1 : (R[k].Name.toList == r.Name.toList) = true := (ba_eq _ _).2 hn
          have he2 : (R[k].Name.toList != r.Name.toList) = false := by simp [hn]
          have e2 := Asd.mk (show putK R r (k + 1) = (acc, true) by rw [e1.out, putS, hA.out, putB_eq hn])
          clear hn
          go_wp2
          go_quiet (fail)
          go_wp2
          go_roundw
          case rel => exact ⟨k + 1, _, _, by omega, by go_num, rfl, e2.out, hRw.out.later (by repeat (first | (with_reducible exact Below.refl _ _) | (with_reducible exact Below.refl _ _) | (with_reducible refine below_al ?_ _) | (with_reducible refine below_dr ?_ _) | (with_reducible refine below_d1 ?_) | ((with_reducible refine Below.setCell ?_ ?_ _); rotate_left; (next => first | (simp; done) | (simp; omega) | omega)))), by repeat (first | (with_reducible exact Below.refl _ _) | (with_reducible exact hbr.out) | (with_reducible refine below_al ?_ _) | (with_reducible refine below_dr ?_ _) | (with_reducible refine below_d1 ?_) | ((with_reducible refine Below.setCell ?_ ?_ _); rotate_left; (next => first | (simp; done) | (simp; omega) | omega)))⟩
          case measure => simp [intOf]; omega
        · have he1 : (R[k].Name.toList == r.Name.toList) = false := by rw [Bool.eq_false_iff]; exact fun h => hn ((ba_eq _ _).1 h)
          have he2 : (R[k].Name.toList != r.Name.toList) = true := by rw [bne, he1]; rfl
          have e2 := Asd.mk (show putK R r (k + 1) = (acc ++ [R[k]], true) by rw [e1.out, putS, hA.out, putB_ne hn])
          clear hn
          go_wp2
          go_quiet (fail)
          go_wp2_with (at_builtin; refine appN rfl rfl Try.underlying58 info_Run rfl (by decide) rfl (lo := X2.heap.size) (wr := wr) (hbr.out.size) hRw.out (by repeat (first | (with_reducible exact Below.refl _ _) | (with_reducible exact Below.refl _ _) | (with_reducible refine below_al ?_ _) | (with_reducible refine below_dr ?_ _) | (with_reducible refine below_d1 ?_) | ((with_reducible refine Below.setCell ?_ ?_ _); rotate_left; (next => first | (simp; done) | (simp; omega) | omega)))) rfl (World.news_of_block (heap_alloc_new _ _)) (by simp) (repsS.ofN hkr.out (by repeat (first | (with_reducible exact Below.refl _ _) | (with_reducible exact hbr.out) | (with_reducible refine below_al ?_ _) | (with_reducible refine below_dr ?_ _) | (with_reducible refine below_d1 ?_) | ((with_reducible refine Below.setCell ?_ ?_ _); rotate_left; (next => first | (simp; done) | (simp; omega) | omega)))) hRw.out.ge) (by simp [maxLen]; omega) (by omega) ?_)
          intro v8 w8 hR8 hm8 hk8
          have hb8 := Asd.mk (hm8.upon (show Below X2.heap.size X2 _ from by repeat (first | (with_reducible exact Below.refl _ _) | (with_reducible exact hbr.out) | (with_reducible refine below_al ?_ _) | (with_reducible refine below_dr ?_ _) | (with_reducible refine below_d1 ?_) | ((with_reducible refine Below.setCell ?_ ?_ _); rotate_left; (next => first | (simp; done) | (simp; omega) | omega)))) (Nat.le_refl _) hRw.out.ge)
          replace hR8 := Asd.mk hR8
          clear hm8 hk8
          go_wp2
          go_roundw
          case rel => exact ⟨k + 1, _, _, by omega, by go_num, rfl, e2.out, by rw [flat_snoc, List.length_append]; exact hR8.out, hb8.out⟩
          case measure => simp [intOf]; omega
      | false =>
        by_cases hl : ltS R[k].Name r.Name = true
        · have hA := Asd.mk (putS_no (r := r) (x := R[k]) (acc := acc) (d := false) (.inr hl))
          replace hl : Op.bytesLess R[k].Name.toList r.Name.toList = true := hl
          obtain ⟨g0, g1, g2, g3, g4, g5, g6⟩ := hbox.out wr hbr.out
          have q0 := cell_below hbr.out k0
          have q1 := cell_below hbr.out k1
          have q2 := cell_below hbr.out k2
          have q3 := cell_below hbr.out k3
          have q4 := cell_below hbr.out k4
          have q5 := cell_below hbr.out k5
          have q6 := cell_below hbr.out k6
          go_wp2
          go_quiet (fail)
          by_cases hn : R[k].Name = r.Name
          · have he1 : (R[k].Name.toList == r.Name.toList) = true := (ba_eq _ _).2 hn
            have he2 : (R[k].Name.toList != r.Name.toList) = false := by simp [hn]
            have e2 := Asd.mk (show putK R r (k + 1) = (acc, false) by rw [e1.out, putS, hA.out, putB_eq hn])
            clear hn
            go_wp2
            go_quiet (fail)
            go_wp2
            go_roundw
            case rel => exact ⟨k + 1, _, _, by omega, by go_num, rfl, e2.out, hRw.out.later (by repeat (first | (with_reducible exact Below.refl _ _) | (with_reducible exact Below.refl _ _) | (with_reducible refine below_al ?_ _) | (with_reducible refine below_dr ?_ _) | (with_reducible refine below_d1 ?_) | ((with_reducible refine Below.setCell ?_ ?_ _); rotate_left; (next => first | (simp; done) | (simp; omega) | omega)))), by repeat (first | (with_reducible exact Below.refl _ _) | (with_reducible exact hbr.out) | (with_reducible refine below_al ?_ _) | (with_reducible refine below_dr ?_ _) | (with_reducible refine below_d1 ?_) | ((with_reducible refine Below.setCell ?_ ?_ _); rotate_left; (next => first | (simp; done) | (simp; omega) | omega)))⟩
            case measure => simp [intOf]; omega
          · have he1 : (R[k].Name.toList == r.Name.toList) = false := by rw [Bool.eq_false_iff]; exact fun h => hn ((ba_eq _ _).1 h)
            have he2 : (R[k].Name.toList != r.Name.toList) = true := by rw [bne, he1]; rfl
            have e2 := Asd.mk (show putK R r (k + 1) = (acc ++ [R[k]], false) by rw [e1.out, putS, hA.out, putB_ne hn])
            clear hn
            go_wp2
            go_quiet (fail)
            go_wp2_with (at_builtin; refine appN rfl rfl Try.underlying58 info_Run rfl (by decide) rfl (lo := X2.heap.size) (wr := wr) (hbr.out.size) hRw.out (by repeat (first | (with_reducible exact Below.refl _ _) | (with_reducible exact Below.refl _ _) | (with_reducible refine below_al ?_ _) | (with_reducible refine below_dr ?_ _) | (with_reducible refine below_d1 ?_) | ((with_reducible refine Below.setCell ?_ ?_ _); rotate_left; (next => first | (simp; done) | (simp; omega) | omega)))) rfl (World.news_of_block (heap_alloc_new _ _)) (by simp) (repsS.ofN hkr.out (by repeat (first | (with_reducible exact Below.refl _ _) | (with_reducible exact hbr.out) | (with_reducible refine below_al ?_ _) | (with_reducible refine below_dr ?_ _) | (with_reducible refine below_d1 ?_) | ((with_reducible refine Below.setCell ?_ ?_ _); rotate_left; (next => first | (simp; done) | (simp; omega) | omega)))) hRw.out.ge) (by simp [maxLen]; omega) (by omega) ?_)
            intro v8 w8 hR8 hm8 hk8
            have hb8 := Asd.mk (hm8.upon (show Below X2.heap.size X2 _ from by repeat (first | (with_reducible exact Below.refl _ _) | (with_reducible exact hbr.out) | (with_reducible refine below_al ?_ _) | (with_reducible refine below_dr ?_ _) | (with_reducible refine below_d1 ?_) | ((with_reducible refine Below.setCell ?_ ?_ _); rotate_left; (next => first | (simp; done) | (simp; omega) | omega)))) (Nat.le_refl _) hRw.out.ge)
            replace hR8 := Asd.mk hR8
            clear hm8 hk8
            go_wp2
            go_roundw
            case rel => exact ⟨k + 1, _, _, by omega, by go_num, rfl, e2.out, by rw [flat_snoc, List.length_append]; exact hR8.out, hb8.out⟩
            case measure => simp [intOf]; omega
        · have hl := Bool.eq_false_iff.2 hl
          have hA := Asd.mk (putS_yes (r := r) (x := R[k]) (acc := acc) hl)
          replace hl : Op.bytesLess R[k].Name.toList r.Name.toList = false := hl
          obtain ⟨g0, g1, g2, g3, g4, g5, g6⟩ := hbox.out wr hbr.out
          have q0 := cell_below hbr.out k0
          have q1 := cell_below hbr.out k1
          have q2 := cell_below hbr.out k2
          have q3 := cell_below hbr.out k3
          have q4 := cell_below hbr.out k4
          have q5 := cell_below hbr.out k5
          have q6 := cell_below hbr.out k6
          go_wp2
          go_quiet (fail)
          go_wp2_with (at_builtin; refine appN rfl rfl Try.underlying58 info_Run rfl (by decide) rfl (lo := X2.heap.size) (wr := wr) (hbr.out.size) hRw.out (by repeat (first | (with_reducible exact Below.refl _ _) | (with_reducible exact Below.refl _ _) | (with_reducible refine below_al ?_ _) | (with_reducible refine below_dr ?_ _) | (with_reducible refine below_d1 ?_) | ((with_reducible refine Below.setCell ?_ ?_ _); rotate_left; (next => first | (simp; done) | (simp; omega) | omega)))) rfl (World.news_of_block (heap_alloc_new _ _)) (by simp) (repsS.ofN hrr.out (by repeat (first | (with_reducible exact Below.refl _ _) | (with_reducible exact hbr.out) | (with_reducible refine below_al ?_ _) | (with_reducible refine below_dr ?_ _) | (with_reducible refine below_d1 ?_) | ((with_reducible refine Below.setCell ?_ ?_ _); rotate_left; (next => first | (simp; done) | (simp; omega) | omega)))) hRw.out.ge) (by simp [maxLen]; omega) (by omega) ?_)
          intro v7 w7 hR7 hm7 hk7
          have hb7 := Asd.mk (hm7.upon (show Below X2.heap.size X2 _ from by repeat (first | (with_reducible exact Below.refl _ _) | (with_reducible exact hbr.out) | (with_reducible refine below_al ?_ _) | (with_reducible refine below_dr ?_ _) | (with_reducible refine below_d1 ?_) | ((with_reducible refine Below.setCell ?_ ?_ _); rotate_left; (next => first | (simp; done) | (simp; omega) | omega)))) (Nat.le_refl _) hRw.out.ge)
          replace hR7 : RowN N X2.heap.size w7 126 7 (acc ++ [r]).length ((acc ++ [r]).flatMap Run.c) v7 := by rw [flat_snoc, List.length_append]; exact hR7
          obtain ⟨A7, d7, rfl, _⟩ := hR7.slice
          replace hR7 := Asd.mk hR7
          clear hm7 hk7
          clear g0 g1 g2 g3 g4 g5 g6 q0 q1 q2 q3 q4 q5 q6
          obtain ⟨g0, g1, g2, g3, g4, g5, g6⟩ := hbox.out w7 hb7.out
          have q0 := cell_below hb7.out k0
          have q1 := cell_below hb7.out k1
          have q2 := cell_below hb7.out k2
          have q3 := cell_below hb7.out k3
          have q4 := cell_below hb7.out k4
          have q5 := cell_below hb7.out k5
          have q6 := cell_below hb7.out k6
          have hal7 : (acc ++ [r]).length ≤ 200001 := by simp; omega
          obtain ⟨acc7, hacc⟩ : ∃ acc7, acc ++ [r] = acc7 := ⟨_, rfl⟩
          rw [hacc] at hR7 hA hal7 ⊢
          clear hacc
          by_cases hn : R[k].Name = r.Name
          · have he1 : (R[k].Name.toList == r.Name.toList) = true := (ba_eq _ _).2 hn
            have he2 : (R[k].Name.toList != r.Name.toList) = false := by simp [hn]
            have e2 := Asd.mk (show putK R r (k + 1) = (acc7, true) by rw [e1.out, putS, hA.out, putB_eq hn])
            clear hn
            go_wp2
            go_quiet (fail)
            go_wp2
            go_roundw
            case rel => exact ⟨k + 1, _, _, by omega, by go_num, rfl, e2.out, hR7.out.later (by repeat (first | (with_reducible exact Below.refl _ _) | (with_reducible exact Below.refl _ _) | (with_reducible refine below_al ?_ _) | (with_reducible refine below_dr ?_ _) | (with_reducible refine below_d1 ?_) | ((with_reducible refine Below.setCell ?_ ?_ _); rotate_left; (next => first | (simp; done) | (simp; omega) | omega)))), by repeat (first | (with_reducible exact Below.refl _ _) | (with_reducible exact hb7.out) | (with_reducible refine below_al ?_ _) | (with_reducible refine below_dr ?_ _) | (with_reducible refine below_d1 ?_) | ((with_reducible refine Below.setCell ?_ ?_ _); rotate_left; (next => first | (simp; done) | (simp; omega) | omega)))⟩
            case measure => simp [intOf]; omega
          · have he1 : (R[k].Name.toList == r.Name.toList) = false := by rw [Bool.eq_false_iff]; exact fun h => hn ((ba_eq _ _).1 h)
            have he2 : (R[k].Name.toList != r.Name.toList) = true := by rw [bne, he1]; rfl
            have e2 := Asd.mk (show putK R r (k + 1) = (acc7 ++ [R[k]], true) by rw [e1.out, putS, hA.out, putB_ne hn])
            clear hn
            go_wp2
            go_quiet (fail)
            go_wp2_with (at_builtin; refine appN rfl rfl Try.underlying58 info_Run rfl (by decide) rfl (lo := X2.heap.size) (wr := w7) (hb7.out.size) hR7.out (by repeat (first | (with_reducible exact Below.refl _ _) | (with_reducible exact Below.refl _ _) | (with_reducible refine below_al ?_ _) | (with_reducible refine below_dr ?_ _) | (with_reducible refine below_d1 ?_) | ((with_reducible refine Below.setCell ?_ ?_ _); rotate_left; (next => first | (simp; done) | (simp; omega) | omega)))) rfl (World.news_of_block (heap_alloc_new _ _)) (by simp) (repsS.ofN hkr.out (by repeat (first | (with_reducible exact Below.refl _ _) | (with_reducible exact hb7.out) | (with_reducible refine below_al ?_ _) | (with_reducible refine below_dr ?_ _) | (with_reducible refine below_d1 ?_) | ((with_reducible refine Below.setCell ?_ ?_ _); rotate_left; (next => first | (simp; done) | (simp; omega) | omega)))) hR7.out.ge) (by simp [maxLen]; omega) (by omega) ?_)
            intro v8 w8 hR8 hm8 hk8
            have hb8 := Asd.mk (hm8.upon (show Below X2.heap.size X2 _ from by repeat (first | (with_reducible exact Below.refl _ _) | (with_reducible exact hb7.out) | (with_reducible refine below_al ?_ _) | (with_reducible refine below_dr ?_ _) | (with_reducible refine below_d1 ?_) | ((with_reducible refine Below.setCell ?_ ?_ _); rotate_left; (next => first | (simp; done) | (simp; omega) | omega)))) (Nat.le_refl _) hR7.out.ge)
            replace hR8 := Asd.mk hR8
            clear hm8 hk8
            go_wp2
            go_roundw
            case rel => exact ⟨k + 1, _, _, by omega, by go_num, rfl, e2.out, by rw [flat_snoc, List.length_append]; exact hR8.out, hb8.out⟩
            case measure => simp [intOf]; omega
    · obtain rfl : k = R.length := by omega
      replace hRw := Asd.mk hRw
      replace hbr := Asd.mk hbr
      obtain ⟨g0, g1, g2, g3, g4, g5, g6⟩ := hbox.out wr hbr.out
      cases d with
      | true =>
        have e2 := Asd.mk (show putL R r = acc by unfold putL; rw [hp]; rfl)
        go_wp2
        go_ret
        exact ⟨_, rfl, by rw [e2.out]; exact hRw.out.mono (by omega), below_st hbX2.out (show Below X2.heap.size X2 wr from hbr.out)⟩
      | false =>
        have e2 := Asd.mk (show putL R r = acc ++ [r] by unfold putL; rw [hp]; rfl)
        go_wp2_with (at_builtin; refine appN rfl rfl Try.underlying58 info_Run rfl (by decide) rfl (lo := X2.heap.size) (wr := wr) (hbr.out.size) hRw.out (by repeat (first | (with_reducible exact Below.refl _ _) | (with_reducible exact Below.refl _ _) | (with_reducible refine below_al ?_ _) | (with_reducible refine below_dr ?_ _) | (with_reducible refine below_d1 ?_) | ((with_reducible refine Below.setCell ?_ ?_ _); rotate_left; (next => first | (simp; done) | (simp; omega) | omega)))) rfl (World.news_of_block (heap_alloc_new _ _)) (by simp) (repsS.ofN hrr.out (by repeat (first | (with_reducible exact Below.refl _ _) | (with_reducible exact hbr.out) | (with_reducible refine below_al ?_ _) | (with_reducible refine below_dr ?_ _) | (with_reducible refine below_d1 ?_) | ((with_reducible refine Below.setCell ?_ ?_ _); rotate_left; (next => first | (simp; done) | (simp; omega) | omega)))) hRw.out.ge) (by simp [maxLen]; omega) (by omega) ?_)
        intro v7 w7 hR7 hm7 hk7
        have hb7 := Asd.mk (hm7.upon (show Below X2.heap.size X2 _ from by repeat (first | (with_reducible exact Below.refl _ _) | (with_reducible exact hbr.out) | (with_reducible refine below_al ?_ _) | (with_reducible refine below_dr ?_ _) | (with_reducible refine below_d1 ?_) | ((with_reducible refine Below.setCell ?_ ?_ _); rotate_left; (next => first | (simp; done) | (simp; omega) | omega)))) (Nat.le_refl _) hRw.out.ge)
        replace hR7 : RowN N X2.heap.size w7 126 7 (acc ++ [r]).length ((acc ++ [r]).flatMap Run.c) v7 := by rw [flat_snoc, List.length_append]; exact hR7
        obtain ⟨A7, d7, rfl, _⟩ := hR7.slice
        replace hR7 := Asd.mk hR7
        clear hm7 hk7
        go_wp2
        go_ret
        exact ⟨_, rfl, by rw [e2.out]; exact hR7.out.mono (by omega), below_st hbX2.out (show Below X2.heap.size X2 w7 from hb7.out)⟩
end Go.Proofs.Ytmjfkjdfmpileaa.M
end
section
set_option linter.unusedVariables false
set_option linter.unusedSimpArgs false
namespace Go.Proofs.Ytmjfkjdfmpileaa.M
open Go.RowKit
def atR (l : List Run) (q : ByteArray) : Int := match l.findIdx? (rIs q) with
  | some i => i
  | none => -1
def noR (l : List Run) (q : ByteArray) (k : Nat) : Prop := ∀ (i : Nat) (h : i < l.length), i < k → rIs q l[i] = false
theorem noR_zero (l : List Run) (q : ByteArray) : noR l q 0 := fun _ _ h => absurd h (Nat.not_lt_zero _)
theorem noR_succ {l : List Run} {q : ByteArray} {k : Nat} (h : noR l q k) (hk : k < l.length) (hx : rIs q l[k] = false) : noR l q (k + 1) := by
  intro i hi hik
  rcases Nat.lt_succ_iff_lt_or_eq.1 hik with hik | rfl
  · exact h i hi hik
  · exact hx
theorem atR_yes {l : List Run} {q : ByteArray} {k : Nat} (h : noR l q k) (hk : k < l.length) (hx : rIs q l[k] = true) : atR l q = k := by
  unfold atR
  have : l.findIdx? (rIs q) = some k := List.findIdx?_eq_some_iff_getElem.2 ⟨hk, hx, fun j hj => by simp [h j (by omega) hj]⟩
  rw [this]
theorem atR_no {l : List Run} {q : ByteArray} (h : noR l q l.length) : atR l q = -1 := by
  unfold atR
  have : l.findIdx? (rIs q) = none := by
    rw [List.findIdx?_eq_none_iff]
    intro x hx
    obtain ⟨i, hi, rfl⟩ := List.getElem_of_mem hx
    exact h i hi hi
  rw [this]
theorem atR_some {l : List Run} {q : ByteArray} {r : Run} (h : runOf l q = some r) : ∃ i, ∃ hi : i < l.length, atR l q = i ∧ l[i] = r := by
  unfold runOf at h
  obtain ⟨hp, i, hi, he, hno⟩ := List.find?_eq_some_iff_getElem.1 h
  refine ⟨i, hi, atR_yes (fun j hj hji => by have := hno j hji; simpa using this) hi (by rw [he]; exact hp), he⟩
theorem atR_none {l : List Run} {q : ByteArray} (h : runOf l q = none) : atR l q = -1 := by
  refine atR_no (fun i hi _ => rIs_ne (runOf_none.1 h _ (List.getElem_mem hi)))
theorem atR_neg (l : List Run) (q : ByteArray) : atR l q < 0 ↔ runOf l q = none := by
  cases h : runOf l q with
  | none => simp [atR_none h]
  | some r => obtain ⟨i, hi, e, _⟩ := atR_some h; simp [e]
set_option maxRecDepth 100000 in
set_option maxHeartbeats 2000000 in
theorem find3_calls {t : Nat} (l : List Run) (q : ByteArray) (kb : Nat) (A B : Option Addr) (n c d : Nat) (w : World) (c0 : w.cell? ⟨kb, 0, none⟩ = some (.slice A n c)) (c1 : w.cell? ⟨kb, 1, none⟩ = some (.slice B l.length d)) (h : rep w (RunsT t l) (.slice B l.length d)) (hl : l.length ≤ 1000000) :
    Calls Try.prog 91 #[.pointer (some ⟨kb, 0, none⟩), .string q] w fun e w' => e = .returned (.int .i64 (atR l q)) ∧ w = w' := by
  replace h := Asd.mk h
  go_enter Try.func91, Try.ntmps91
  go_wp2
  go_loop [5] (fun i => ∃ k : Nat, k ≤ l.length ∧ i = .int .i64 k ∧ noR l q k) (fun i => l.length - (intOf i).toNat)
  case atStart => exact ⟨0, by omega, rfl, noR_zero _ _⟩
  case round =>
    obtain ⟨k, hk, rfl, hA⟩ := hrel
    by_cases hlt : k < l.length
    · obtain ⟨a, c', v6, he, k0, _⟩ := Run.elem h.out hlt
      cases he
      by_cases hx : rIs q l[k] = true
      · have e1 := Asd.mk (atR_yes hA hlt hx)
        replace hx : (l[k].Name.toList == q.toList) = true := hx
        go_wp2
        go_ret
        exact ⟨by rw [e1.out]; rfl, rfl⟩
      · have hx := Bool.eq_false_iff.2 hx
        have e1 := noR_succ hA hlt hx
        replace hx : (l[k].Name.toList == q.toList) = false := hx
        go_wp2
        go_round
        case rel => exact ⟨k + 1, by omega, by go_num, e1⟩
        case measure => simp [intOf]; omega
    · obtain rfl : k = l.length := by omega
      have e1 := Asd.mk (atR_no hA)
      go_wp2
      go_ret
      exact ⟨by rw [e1.out]; rfl, rfl⟩
end Go.Proofs.Ytmjfkjdfmpileaa.M
end
section
set_option linter.unusedVariables false
set_option linter.unusedSimpArgs false
attribute [local go_sem ↓] Go.wp_at_zero Go.wp_at_succ
namespace Go.Proofs.Ytmjfkjdfmpileaa.M
open Go.RowKit
/-- what is known, in memory: kb the block of it, rv its runs' row -/
structure Kn (lo : Nat) (w : World) (kb : Nat) (A : Option Addr) (n c : Nat) (l : List Run) (rv : Value) : Prop where
  cells : w.heap[kb]? = some (.cells #[.slice A n c, rv] 94 (0, 0))
  row : RowN [kb] lo w 126 7 l.length (l.flatMap Run.c) rv
  apart : ∀ k, rv.ownBlock = some k → k ≠ kb
theorem Kn.later {lo : Nat} {w w' : World} {kb : Nat} {A : Option Addr} {n c : Nat} {l : List Run} {rv : Value} (h : Kn lo w kb A n c l rv) (hb : Below w.heap.size w w') : Kn lo w' kb A n c l rv :=
  ⟨(hb.block kb (lt_of_heap h.cells)).trans h.cells, h.row.later hb, h.apart⟩
def KnP (lo : Nat) (w : World) (kb : Nat) (A : Option Addr) (n c : Nat) (l : List Run) (N : List Nat) (w' : World) : Prop := ∃ rv, Kn lo w' kb A n c l rv ∧ MFr N w w' ∧ ∀ k, rv.ownBlock = some k → k ∈ N ∨ w.heap.size ≤ k
theorem wantU_has {W : Web} {l : List Run} {q : ByteArray} {r : Run} (h : runOf l q = some r) : wantU W l q = l := by unfold wantU; rw [h]; simp
theorem wantU_out {W : Web} {l : List Run} {q : ByteArray} (h : hasN W.Nodes q = false) : wantU W l q = l := by unfold wantU; rw [h]; simp
theorem wantU_new {W : Web} {l : List Run} {q : ByteArray} (h : hasN W.Nodes q = true) (h2 : runOf l q = none) : wantU W l q = l ++ [newRun q] := by unfold wantU; rw [h, h2]; simp
theorem MFr.part {N Z : List Nat} {w w1 w2 : World} (h : MFr N w w1) (k : MFr Z w1 w2) (hM : ∀ b ∈ Z, b ∈ N ∨ w.heap.size ≤ b) : MFr N w w2 :=
  ⟨k.os.trans h.os, k.tape.trans h.tape, k.output.trans h.output, Nat.le_trans h.size k.size, fun b hb hn => (k.block b (Nat.lt_of_lt_of_le hb h.size) (fun hf => (hM b hf).elim hn (fun h2 => by omega))).trans (h.block b hb hn)⟩
def wuTo (W : Web) (l : List Run) (qs : List ByteArray) (k : Nat) : List Run := wantsU W l (qs.take k)
theorem wuTo_zero (W : Web) (l : List Run) (qs : List ByteArray) : wuTo W l qs 0 = l := rfl
theorem wuTo_succ {W : Web} {l : List Run} {qs : List ByteArray} {k : Nat} (h : k < qs.length) : wuTo W l qs (k + 1) = wantU W (wuTo W l qs k) qs[k] := by
  unfold wuTo wantsU; rw [List.take_succ_eq_append_getElem h, List.foldl_append]; rfl
theorem wuTo_end (W : Web) (l : List Run) (qs : List ByteArray) : wuTo W l qs qs.length = wantsU W l qs := by unfold wuTo; rw [List.take_length]
theorem wuTo_len (W : Web) (l : List Run) (qs : List ByteArray) : ∀ k, (wuTo W l qs k).length ≤ l.length + k
  | 0 => by simp [wuTo_zero]
  | k + 1 => by
    rcases Nat.lt_or_ge k qs.length with h | h
    · rw [wuTo_succ h]
      have := wuTo_len W l qs k
      unfold wantU
      split
      · simp; omega
      · omega
    · have e : wuTo W l qs (k + 1) = wuTo W l qs k := by unfold wuTo; rw [List.take_of_length_le (by omega), List.take_of_length_le (by omega)]
      rw [e]; have := wuTo_len W l qs k; omega
theorem atN_out {xs : List Node} {q : ByteArray} (h : hasN xs q = false) : atN xs q = -1 := by
  refine atN_no (fun i hi _ => ?_)
  rw [Bool.eq_false_iff]
  intro hx
  unfold nmB at hx
  have : hasN xs q = true := (hasN_iff xs q).2 ⟨xs[i], List.getElem_mem hi, (ba_eq _ _).1 hx⟩
  rw [this] at h; cases h
theorem newRun_reps (N : List Nat) (w : World) (q : ByteArray) : repsS N w (Run.c (newRun q)) [.string q, .bool false, .bool false, .string ⟨#[]⟩, .int .i64 0, .int .i64 0, .slice none 0 0] :=
  fun w' _ => Run.rmk (newRun q) (own_nil w' _ _).rep
set_option maxRecDepth 100000 in
set_option maxHeartbeats 4000000 in
theorem want3_calls {lo tN tS tC ts : Nat} (W : Web) (l : List Run) (qs : List ByteArray) (kb : Nat) (A B : Option Addr) (c d : Nat) (rv : Value) (w : World) (hK : Kn lo w kb A W.Nodes.length c l rv) (hw : repS (kb :: rv.ownBlock.toList) w (NodesT tN tS tC W.Nodes) (.slice A W.Nodes.length c)) (hq : repS (kb :: rv.ownBlock.toList) w (strsT ts qs) (.slice B qs.length d))
    (hl : l.length ≤ 100000) (hql : qs.length ≤ 100000) (hlo : lo ≤ w.heap.size) :
    Calls Try.prog 60 #[.pointer (some ⟨kb, 0, none⟩), .slice B qs.length d] w fun e w' => e = .returned (.tuple #[]) ∧ KnP lo w kb A W.Nodes.length c (wantsU W l qs) (kb :: rv.ownBlock.toList) w' := by
  have hkl := lt_of_heap hK.cells
  replace hK := Asd.mk hK
  replace hw := Asd.mk hw
  replace hq := Asd.mk hq
  go_enter Try.func60, Try.ntmps60
  go_wp2
  go_loopw [4] (fun i wr => ∃ k : Nat, k ≤ qs.length ∧ i = .int .i64 k ∧ KnP lo w kb A W.Nodes.length c (wuTo W l qs k) (kb :: rv.ownBlock.toList) wr) (fun i _ => qs.length - (intOf i).toNat)
  case atStart => exact ⟨0, by omega, rfl, rv, hK.out, MFr.refl _ _, fun k hk => .inl (by simp [hk])⟩
  case round =>
    obtain ⟨k, hk, rfl, rr, hKr, hm, hrr⟩ := hrel
    by_cases hlt : k < qs.length
    · obtain ⟨a, c', he, hcell⟩ := str_elem (hq.out wr hm) hlt
      cases he
      obtain ⟨q, hqq⟩ : ∃ q, qs[k] = q := ⟨_, rfl⟩
      rw [hqq] at hcell
      obtain ⟨lr, hlr⟩ : ∃ lr, wuTo W l qs k = lr := ⟨_, rfl⟩
      have hll := wuTo_len W l qs k
      have e1 := Asd.mk (wuTo_succ (W := W) (l := l) hlt)
      rw [hlr] at hKr hll e1
      rw [hqq] at e1
      have hqq := Asd.mk hqq
      clear hlr
      obtain ⟨Br, dr, rfl, hdr⟩ := hKr.row.row.slice
      have c0 := cellOf hKr.cells (i := 0) rfl
      have c1 := cellOf hKr.cells (i := 1) rfl
      have f1 := frozenOf hKr.cells 1
      have hz : w.heap.size ≤ wr.heap.size := hm.size
      have hkr : kb < wr.heap.size := by omega
      replace hKr := Asd.mk hKr
      replace hm := Asd.mk hm
      have hrr2 := Asd.mk hrr
      clear hrr
      by_cases hn : hasN W.Nodes q = true
      rotate_left
      · have hn := Bool.eq_false_iff.2 hn
        have hN : atN W.Nodes q = -1 := atN_out hn
        obtain ⟨nm, hM⟩ : ∃ nm, atR lr q = nm := ⟨_, rfl⟩
        have eQ := Asd.mk (wantU_out (l := lr) hn)
        replace hN := Asd.mk hN
        have hkeep := Asd.mk (show ∀ Z, Below wr.heap.size wr Z → (Below wr.heap.size wr Z ∧ Z.cell? ⟨kb, 0, none⟩ = some (.slice A W.Nodes.length c) ∧ Z.cell? (a.add k) = some (.string q)) from fun Z hb => ⟨hb, cell_below hb c0, cell_below hb hcell⟩)
        have s_0 : Below wr.heap.size wr wr.drew := (Below.refl _ _).drew
        go_wp2
        refine wp_region_held_drew (S := fun Z => Below wr.heap.size wr Z ∧ Z.cell? ⟨kb, 0, none⟩ = some (.slice A W.Nodes.length c) ∧ Z.cell? (a.add k) = some (.string q)) (by kernel_rfl) (hkeep.out _ s_0) (fun hHeld => ?_)
        ((refine wpAnyH_take (i := 0) (v := ?_) rfl (by kernel_rfl) (by kernel_rfl) (by kernel_rfl) (fun _ _ _ h => h) (Or.inl ⟨by rfl, ?_⟩) (by assumption) ?_; rotate_left; (next => ((intro X hX; (try dsimp only at hX); go_simp); try with_reducible rfl))); (try simp only [Act.put, List.getElem_toArray, List.getElem_cons_succ, List.getElem_cons_zero, List.setIfInBounds_toArray, List.set_cons_zero, List.set_cons_succ]); (refine wpAnyH_take (i := 1) (v := ?_) rfl (by kernel_rfl) (by kernel_rfl) (by kernel_rfl) (fun _ _ _ h => h) (Or.inl ⟨by rfl, ?_⟩) (by assumption) ?_; rotate_left; (next => ((intro X hX; (try dsimp only at hX); go_simp); try with_reducible rfl))); (try simp only [Act.put, List.getElem_toArray, List.getElem_cons_succ, List.getElem_cons_zero, List.setIfInBounds_toArray, List.set_cons_zero, List.set_cons_succ]); (refine wpAnyH_take (i := 2) (v := ?_) rfl (by kernel_rfl) (by kernel_rfl) (by kernel_rfl) (fun _ _ _ h => h) (Or.inl ⟨by rfl, ?_⟩) (by assumption) ?_; rotate_left; (next => ((intro X hX; (try dsimp only at hX); go_simp); try with_reducible rfl))); (try simp only [Act.put, List.getElem_toArray, List.getElem_cons_succ, List.getElem_cons_zero, List.setIfInBounds_toArray, List.set_cons_zero, List.set_cons_succ]); (refine wpAnyH_take (i := 3) (v := ?_) rfl (by kernel_rfl) (by kernel_rfl) (by kernel_rfl) (fun _ _ _ h => h) (Or.inl ⟨by rfl, ?_⟩) (by assumption) ?_; rotate_left; (next => ((intro X hX; (try dsimp only at hX); go_simp); try with_reducible rfl))); (try simp only [Act.put, List.getElem_toArray, List.getElem_cons_succ, List.getElem_cons_zero, List.setIfInBounds_toArray, List.set_cons_zero, List.set_cons_succ]); (refine wpAnyH_take (i := 4) (v := ?_) rfl (by kernel_rfl) (by kernel_rfl) (by kernel_rfl) (fun _ _ _ h => h) (Or.inl ⟨by rfl, ?_⟩) (by assumption) ?_; rotate_left; (next => ((intro X hX; (try dsimp only at hX); go_simp); try with_reducible rfl))); (try simp only [Act.put, List.getElem_toArray, List.getElem_cons_succ, List.getElem_cons_zero, List.setIfInBounds_toArray, List.set_cons_zero, List.set_cons_succ]); (refine wpAnyH_take (i := 5) (v := ?_) rfl (by kernel_rfl) (by kernel_rfl) (by kernel_rfl) (fun _ _ _ h => h) (Or.inl ⟨by rfl, ?_⟩) (by assumption) ?_; rotate_left; (next => ((intro X hX; (try dsimp only at hX); go_simp); try with_reducible rfl))); (try simp only [Act.put, List.getElem_toArray, List.getElem_cons_succ, List.getElem_cons_zero, List.setIfInBounds_toArray, List.set_cons_zero, List.set_cons_succ]); (refine wpAnyH_take (i := 6) (v := ?_) rfl (by kernel_rfl) (by kernel_rfl) (by kernel_rfl) (fun _ _ _ h => h) (Or.inl ⟨by rfl, ?_⟩) (by assumption) ?_; rotate_left; (next => ((intro X hX; (try dsimp only at hX); go_simp); try with_reducible rfl))); (try simp only [Act.put, List.getElem_toArray, List.getElem_cons_succ, List.getElem_cons_zero, List.setIfInBounds_toArray, List.set_cons_zero, List.set_cons_succ]); (refine wpAnyH_take (i := 7) (v := ?_) rfl (by kernel_rfl) (by kernel_rfl) (by kernel_rfl) (fun _ _ _ h => h) (Or.inl ⟨by rfl, ?_⟩) (by assumption) ?_; rotate_left; (next => ((intro X hX; (try dsimp only at hX); go_simp); try with_reducible rfl))); (try simp only [Act.put, List.getElem_toArray, List.getElem_cons_succ, List.getElem_cons_zero, List.setIfInBounds_toArray, List.set_cons_zero, List.set_cons_succ]))
        (refine wpAnyH_ready (rs := [8]) (by kernel_rfl) (by simp) ?_; refine AllReadyH.cons rfl (fun K hK => ?_) AllReadyH.nil)
        go_simp
        (refine (l2At_calls W q _ (Web.rmk W ((hw.out wr hm.out).below (by repeat (first | (with_reducible exact Below.refl _ _) | (with_reducible exact s_0) | (with_reducible refine below_al ?_ _) | (with_reducible refine below_dr ?_ _) | (with_reducible refine below_d1 ?_) | ((with_reducible refine Below.setCell ?_ ?_ _); rotate_left; (next => first | (simp; done) | (simp; omega) | omega))))))).mono ?_; rw [hN.out]; rintro e' w5 ⟨rfl, hb⟩; obtain ⟨s_0, s_1, s_2⟩ := hkeep.out _ (below_st (show Below wr.heap.size wr _ from by repeat (first | (with_reducible exact Below.refl _ _) | (with_reducible exact s_0) | (with_reducible refine below_al ?_ _) | (with_reducible refine below_dr ?_ _) | (with_reducible refine below_d1 ?_) | ((with_reducible refine Below.setCell ?_ ?_ _); rotate_left; (next => first | (simp; done) | (simp; omega) | omega)))) hb); clear hb)
        refine hK.out _ _ (hkeep.out _ s_0) (fun hHeld => ?_)
        clear hK K
        ((refine wpAnyH_take (i := 9) (v := ?_) rfl (by kernel_rfl) (by kernel_rfl) (by kernel_rfl) (fun _ _ _ h => h) (Or.inl ⟨by rfl, ?_⟩) (by assumption) ?_; rotate_left; (next => ((intro X hX; (try dsimp only at hX); go_simp); try with_reducible rfl))); (try simp only [Act.put, List.getElem_toArray, List.getElem_cons_succ, List.getElem_cons_zero, List.setIfInBounds_toArray, List.set_cons_zero, List.set_cons_succ]); (refine wpAnyH_take (i := 10) (v := ?_) rfl (by kernel_rfl) (by kernel_rfl) (by kernel_rfl) (fun _ _ _ h => h) (Or.inl ⟨by rfl, ?_⟩) (by assumption) ?_; rotate_left; (next => ((intro X hX; (try dsimp only at hX); go_simp); try with_reducible rfl))); (try simp only [Act.put, List.getElem_toArray, List.getElem_cons_succ, List.getElem_cons_zero, List.setIfInBounds_toArray, List.set_cons_zero, List.set_cons_succ]))
        ((refine wpAnyH_take (i := 11) (v := undef) rfl (by kernel_rfl) (by kernel_rfl) (by kernel_rfl) (fun _ _ _ h => h) (Or.inr ⟨by rfl, rfl⟩) (by assumption) ?_); (try simp only [Act.put, List.getElem_toArray, List.getElem_cons_succ, List.getElem_cons_zero, List.setIfInBounds_toArray, List.set_cons_zero, List.set_cons_succ]); (refine wpAnyH_take (i := 12) (v := undef) rfl (by kernel_rfl) (by kernel_rfl) (by kernel_rfl) (fun _ _ _ h => h) (Or.inr ⟨by rfl, rfl⟩) (by assumption) ?_); (try simp only [Act.put, List.getElem_toArray, List.getElem_cons_succ, List.getElem_cons_zero, List.setIfInBounds_toArray, List.set_cons_zero, List.set_cons_succ]); (refine wpAnyH_take (i := 13) (v := undef) rfl (by kernel_rfl) (by kernel_rfl) (by kernel_rfl) (fun _ _ _ h => h) (Or.inr ⟨by rfl, rfl⟩) (by assumption) ?_); (try simp only [Act.put, List.getElem_toArray, List.getElem_cons_succ, List.getElem_cons_zero, List.setIfInBounds_toArray, List.set_cons_zero, List.set_cons_succ]); (refine wpAnyH_take (i := 14) (v := undef) rfl (by kernel_rfl) (by kernel_rfl) (by kernel_rfl) (fun _ _ _ h => h) (Or.inr ⟨by rfl, rfl⟩) (by assumption) ?_); (try simp only [Act.put, List.getElem_toArray, List.getElem_cons_succ, List.getElem_cons_zero, List.setIfInBounds_toArray, List.set_cons_zero, List.set_cons_succ]); (refine wpAnyH_take (i := 15) (v := undef) rfl (by kernel_rfl) (by kernel_rfl) (by kernel_rfl) (fun _ _ _ h => h) (Or.inr ⟨by rfl, rfl⟩) (by assumption) ?_); (try simp only [Act.put, List.getElem_toArray, List.getElem_cons_succ, List.getElem_cons_zero, List.setIfInBounds_toArray, List.set_cons_zero, List.set_cons_succ]); (refine wpAnyH_take (i := 16) (v := undef) rfl (by kernel_rfl) (by kernel_rfl) (by kernel_rfl) (fun _ _ _ h => h) (Or.inr ⟨by rfl, rfl⟩) (by assumption) ?_); (try simp only [Act.put, List.getElem_toArray, List.getElem_cons_succ, List.getElem_cons_zero, List.setIfInBounds_toArray, List.set_cons_zero, List.set_cons_succ]); (refine wpAnyH_take (i := 17) (v := undef) rfl (by kernel_rfl) (by kernel_rfl) (by kernel_rfl) (fun _ _ _ h => h) (Or.inr ⟨by rfl, rfl⟩) (by assumption) ?_); (try simp only [Act.put, List.getElem_toArray, List.getElem_cons_succ, List.getElem_cons_zero, List.setIfInBounds_toArray, List.set_cons_zero, List.set_cons_succ]))
        ((refine wpAnyH_take (i := 18) (v := ?_) rfl (by kernel_rfl) (by kernel_rfl) (by kernel_rfl) (fun _ _ _ h => h) (Or.inl ⟨by rfl, ?_⟩) (by assumption) ?_; rotate_left; (next => ((intro X hX; (try dsimp only at hX); go_simp); try with_reducible rfl))); (try simp only [Act.put, List.getElem_toArray, List.getElem_cons_succ, List.getElem_cons_zero, List.setIfInBounds_toArray, List.set_cons_zero, List.set_cons_succ]))
        refine wpAnyH_done (by kernel_rfl) ?_ _
        clear hkeep
        have hs5 := Asd.mk s_0
        clear s_0
        go_wp2
        go_roundw
        case rel => exact ⟨k + 1, by omega, by go_num, _, by rw [e1.out, eQ.out]; exact hKr.out.later hs5.out, hm.out.trans (MFr.of_below hs5.out), fun b hb => hrr2.out b hb⟩
        case measure => simp [intOf]; omega
      have g0 : ¬atN W.Nodes q < 0 := fun h => by rw [(atN_neg _ _).1 h] at hn; cases hn
      obtain ⟨na, hN⟩ : ∃ na : Nat, atN W.Nodes q = (na : Int) := ⟨(atN W.Nodes q).toNat, by omega⟩
      have g1 : decide ((0 : Int) ≤ (na : Int)) = true := by simp
      clear g0
      replace hN := Asd.mk hN
      cases hr : runOf lr q with
      | some r =>
        have g4 : ¬atR lr q < 0 := fun h => by rw [atR_neg, hr] at h; cases h
        obtain ⟨nm, hM⟩ : ∃ nm : Nat, atR lr q = (nm : Int) := ⟨(atR lr q).toNat, by omega⟩
        have g3 : decide ((nm : Int) < 0) = false := by simp
        clear g4
        have eQ := Asd.mk (wantU_has (W := W) hr)
        replace hM := Asd.mk hM
        have hkeep := Asd.mk (show ∀ Z, Below wr.heap.size wr Z → (Below wr.heap.size wr Z ∧ Z.cell? ⟨kb, 0, none⟩ = some (.slice A W.Nodes.length c) ∧ Z.cell? ⟨kb, 1, none⟩ = some (.slice Br lr.length dr) ∧ Z.cell? (a.add k) = some (.string q)) from fun Z hb => ⟨hb, cell_below hb c0, cell_below hb c1, cell_below hb hcell⟩)
        have s_0 : Below wr.heap.size wr wr.drew := (Below.refl _ _).drew
        go_wp2
        go_region_held3 (fun Z => Below wr.heap.size wr Z ∧ Z.cell? ⟨kb, 0, none⟩ = some (.slice A W.Nodes.length c) ∧ Z.cell? ⟨kb, 1, none⟩ = some (.slice Br lr.length dr) ∧ Z.cell? (a.add k) = some (.string q)) ((refine hkeep.out _ ?_; (repeat (first | (with_reducible exact Below.refl _ _) | (with_reducible exact s_0) | (with_reducible refine below_al ?_ _) | (with_reducible refine below_dr ?_ _) | (with_reducible refine below_d1 ?_) | ((with_reducible refine Below.setCell ?_ ?_ _); rotate_left; (next => first | (simp; done) | (simp; omega) | omega))))))
          (first | (go_at_call 35; refine (l2At_calls W q _ (Web.rmk W ((hw.out wr hm.out).below (by repeat (first | (with_reducible exact Below.refl _ _) | (with_reducible exact s_0) | (with_reducible refine below_al ?_ _) | (with_reducible refine below_dr ?_ _) | (with_reducible refine below_d1 ?_) | ((with_reducible refine Below.setCell ?_ ?_ _); rotate_left; (next => first | (simp; done) | (simp; omega) | omega))))))).mono ?_; rw [hN.out]; rintro e' w5 ⟨rfl, hb⟩; obtain ⟨s_0, s_1, s_2, s_3⟩ := hkeep.out _ (below_st (show Below wr.heap.size wr _ from by repeat (first | (with_reducible exact Below.refl _ _) | (with_reducible exact s_0) | (with_reducible refine below_al ?_ _) | (with_reducible refine below_dr ?_ _) | (with_reducible refine below_d1 ?_) | ((with_reducible refine Below.setCell ?_ ?_ _); rotate_left; (next => first | (simp; done) | (simp; omega) | omega)))) hb); clear hb) | (go_at_call 91; refine (find3_calls lr q kb A Br W.Nodes.length c dr _ s_1 s_2 (hKr.out.row.row.rep.below s_0) (by omega)).mono ?_; rw [hM.out]; rintro e' w6 ⟨rfl, rfl⟩))
        clear hkeep
        have hs5 := Asd.mk s_0
        clear s_0
        go_wp2
        go_roundw
        case rel => exact ⟨k + 1, by omega, by go_num, _, by rw [e1.out, eQ.out]; exact hKr.out.later hs5.out, hm.out.trans (MFr.of_below hs5.out), fun b hb => hrr2.out b hb⟩
        case measure => simp [intOf]; omega
      | none =>
        have hM : atR lr q = -1 := atR_none hr
        have eQ := Asd.mk (wantU_new hn hr)
        replace hM := Asd.mk hM
        have hkeep := Asd.mk (show ∀ Z, Below wr.heap.size wr Z → (Below wr.heap.size wr Z ∧ Z.cell? ⟨kb, 0, none⟩ = some (.slice A W.Nodes.length c) ∧ Z.cell? ⟨kb, 1, none⟩ = some (.slice Br lr.length dr) ∧ Z.cell? (a.add k) = some (.string q)) from fun Z hb => ⟨hb, cell_below hb c0, cell_below hb c1, cell_below hb hcell⟩)
        have s_0 : Below wr.heap.size wr wr.drew := (Below.refl _ _).drew
        go_wp2
        go_region_held3 (fun Z => Below wr.heap.size wr Z ∧ Z.cell? ⟨kb, 0, none⟩ = some (.slice A W.Nodes.length c) ∧ Z.cell? ⟨kb, 1, none⟩ = some (.slice Br lr.length dr) ∧ Z.cell? (a.add k) = some (.string q)) ((refine hkeep.out _ ?_; (repeat (first | (with_reducible exact Below.refl _ _) | (with_reducible exact s_0) | (with_reducible refine below_al ?_ _) | (with_reducible refine below_dr ?_ _) | (with_reducible refine below_d1 ?_) | ((with_reducible refine Below.setCell ?_ ?_ _); rotate_left; (next => first | (simp; done) | (simp; omega) | omega))))))
          (first | (go_at_call 35; refine (l2At_calls W q _ (Web.rmk W ((hw.out wr hm.out).below (by repeat (first | (with_reducible exact Below.refl _ _) | (with_reducible exact s_0) | (with_reducible refine below_al ?_ _) | (with_reducible refine below_dr ?_ _) | (with_reducible refine below_d1 ?_) | ((with_reducible refine Below.setCell ?_ ?_ _); rotate_left; (next => first | (simp; done) | (simp; omega) | omega))))))).mono ?_; rw [hN.out]; rintro e' w5 ⟨rfl, hb⟩; obtain ⟨s_0, s_1, s_2, s_3⟩ := hkeep.out _ (below_st (show Below wr.heap.size wr _ from by repeat (first | (with_reducible exact Below.refl _ _) | (with_reducible exact s_0) | (with_reducible refine below_al ?_ _) | (with_reducible refine below_dr ?_ _) | (with_reducible refine below_d1 ?_) | ((with_reducible refine Below.setCell ?_ ?_ _); rotate_left; (next => first | (simp; done) | (simp; omega) | omega)))) hb); clear hb) | (go_at_call 91; refine (find3_calls lr q kb A Br W.Nodes.length c dr _ s_1 s_2 (hKr.out.row.row.rep.below s_0) (by omega)).mono ?_; rw [hM.out]; rintro e' w6 ⟨rfl, rfl⟩))
        clear hkeep
        have hs5 := Asd.mk s_0
        clear s_0
        go_wp2_with fail
        have b5 := hs5.out
        have d1 := cell_below b5 c1
        have d3 := cell_below b5 hcell
        have df : w5.frozen? ⟨kb, 1, none⟩ = false := (b5.frozen (p := ⟨kb, 1, none⟩) hkr).trans f1
        have hR5 := Asd.mk (hKr.out.row.later b5)
        have z5 : kb < w5.heap.size := by have := b5.size; omega
        have hg5 := Asd.mk ((b5.block kb hkr).trans hKr.out.cells)
        have hap := Asd.mk hKr.out.apart
        have hm5 := Asd.mk (hm.out.trans (MFr.of_below b5))
        have hz5 := Asd.mk b5.size
        clear b5
        refine wp_region_G (last := 14) (S := fun Z => Z.cell? ⟨kb, 1, none⟩ = some (.slice Br lr.length dr) ∧ Z.cell? (a.add k) = some (.string q)) (by kernel_rfl) ?_
        have hH : w5.drew.cell? ⟨kb, 1, none⟩ = some (.slice Br lr.length dr) ∧ w5.drew.cell? (a.add k) = some (.string q) := ⟨d1, d3⟩
        ((refine wpG_take (i := 0) (v := ?_) rfl rfl (by kernel_rfl) (by kernel_rfl) (by kernel_rfl) (by kernel_rfl) (fun _ _ _ h => h) (Or.inl ⟨by rfl, ?_⟩) (by assumption) ?_; rotate_left; (next => ((intro X hX; (try dsimp only at hX); go_simp); try with_reducible rfl))); (try simp only [Act.put, List.setIfInBounds_toArray, List.set_cons_zero, List.set_cons_succ]); (refine wpG_take (i := 1) (v := ?_) rfl rfl (by kernel_rfl) (by kernel_rfl) (by kernel_rfl) (by kernel_rfl) (fun _ _ _ h => h) (Or.inl ⟨by rfl, ?_⟩) (by assumption) ?_; rotate_left; (next => ((intro X hX; (try dsimp only at hX); go_simp); try with_reducible rfl))); (try simp only [Act.put, List.setIfInBounds_toArray, List.set_cons_zero, List.set_cons_succ]); (refine wpG_take (i := 2) (v := ?_) rfl rfl (by kernel_rfl) (by kernel_rfl) (by kernel_rfl) (by kernel_rfl) (fun _ _ _ h => h) (Or.inl ⟨by rfl, ?_⟩) (by assumption) ?_; rotate_left; (next => ((intro X hX; (try dsimp only at hX); go_simp); try with_reducible rfl))); (try simp only [Act.put, List.setIfInBounds_toArray, List.set_cons_zero, List.set_cons_succ]); (refine wpG_take (i := 3) (v := ?_) rfl rfl (by kernel_rfl) (by kernel_rfl) (by kernel_rfl) (by kernel_rfl) (fun _ _ _ h => h) (Or.inl ⟨by rfl, ?_⟩) (by assumption) ?_; rotate_left; (next => ((intro X hX; (try dsimp only at hX); go_simp); try with_reducible rfl))); (try simp only [Act.put, List.setIfInBounds_toArray, List.set_cons_zero, List.set_cons_succ]); (refine wpG_take (i := 4) (v := ?_) rfl rfl (by kernel_rfl) (by kernel_rfl) (by kernel_rfl) (by kernel_rfl) (fun _ _ _ h => h) (Or.inl ⟨by rfl, ?_⟩) (by assumption) ?_; rotate_left; (next => ((intro X hX; (try dsimp only at hX); go_simp); try with_reducible rfl))); (try simp only [Act.put, List.setIfInBounds_toArray, List.set_cons_zero, List.set_cons_succ]); (refine wpG_take (i := 5) (v := ?_) rfl rfl (by kernel_rfl) (by kernel_rfl) (by kernel_rfl) (by kernel_rfl) (fun _ _ _ h => h) (Or.inl ⟨by rfl, ?_⟩) (by assumption) ?_; rotate_left; (next => ((intro X hX; (try dsimp only at hX); go_simp); try with_reducible rfl))); (try simp only [Act.put, List.setIfInBounds_toArray, List.set_cons_zero, List.set_cons_succ]); (refine wpG_take (i := 6) (v := ?_) rfl rfl (by kernel_rfl) (by kernel_rfl) (by kernel_rfl) (by kernel_rfl) (fun _ _ _ h => h) (Or.inl ⟨by rfl, ?_⟩) (by assumption) ?_; rotate_left; (next => ((intro X hX; (try dsimp only at hX); go_simp); try with_reducible rfl))); (try simp only [Act.put, List.setIfInBounds_toArray, List.set_cons_zero, List.set_cons_succ]); (refine wpG_take (i := 7) (v := ?_) rfl rfl (by kernel_rfl) (by kernel_rfl) (by kernel_rfl) (by kernel_rfl) (fun _ _ _ h => h) (Or.inl ⟨by rfl, ?_⟩) (by assumption) ?_; rotate_left; (next => ((intro X hX; (try dsimp only at hX); go_simp); try with_reducible rfl))); (try simp only [Act.put, List.setIfInBounds_toArray, List.set_cons_zero, List.set_cons_succ]); (refine wpG_take (i := 8) (v := ?_) rfl rfl (by kernel_rfl) (by kernel_rfl) (by kernel_rfl) (by kernel_rfl) (fun _ _ _ h => h) (Or.inl ⟨by rfl, ?_⟩) (by assumption) ?_; rotate_left; (next => ((intro X hX; (try dsimp only at hX); go_simp); try with_reducible rfl))); (try simp only [Act.put, List.setIfInBounds_toArray, List.set_cons_zero, List.set_cons_succ]); (refine wpG_take (i := 9) (v := ?_) rfl rfl (by kernel_rfl) (by kernel_rfl) (by kernel_rfl) (by kernel_rfl) (fun _ _ _ h => h) (Or.inl ⟨by rfl, ?_⟩) (by assumption) ?_; rotate_left; (next => ((intro X hX; (try dsimp only at hX); go_simp); try with_reducible rfl))); (try simp only [Act.put, List.setIfInBounds_toArray, List.set_cons_zero, List.set_cons_succ]))
        (refine wpG_one (i := 10) (by kernel_rfl) rfl (fun K hK => ?_))
        go_simp
        refine hK.out _ _ (fun _ => ⟨cell_below (by repeat (first | (with_reducible exact Below.refl _ _) | (with_reducible exact Below.refl _ _) | (with_reducible refine below_al ?_ _) | (with_reducible refine below_dr ?_ _) | (with_reducible refine below_d1 ?_) | ((with_reducible refine Below.setCell ?_ ?_ _); rotate_left; (next => first | (simp; done) | (simp; omega) | omega)))) d1, cell_below (by repeat (first | (with_reducible exact Below.refl _ _) | (with_reducible exact Below.refl _ _) | (with_reducible refine below_al ?_ _) | (with_reducible refine below_dr ?_ _) | (with_reducible refine below_d1 ?_) | ((with_reducible refine Below.setCell ?_ ?_ _); rotate_left; (next => first | (simp; done) | (simp; omega) | omega)))) d3⟩) ?_
        clear hK K hH
        (try simp only [Act.put, List.setIfInBounds_toArray, List.set_cons_zero, List.set_cons_succ])
        (refine wpG_one (i := 11) (by kernel_rfl) rfl (fun K hK => ?_))
        refine step_appN (by rfl) (by rfl) Try.underlying58 info_Run rfl (by decide) (by rfl) (lo := lo) (wr := w5) (by have := hz5.out; omega) hR5.out (by repeat (first | (with_reducible exact Below.refl _ _) | (with_reducible exact Below.refl _ _) | (with_reducible refine below_al ?_ _) | (with_reducible refine below_dr ?_ _) | (with_reducible refine below_d1 ?_) | ((with_reducible refine Below.setCell ?_ ?_ _); rotate_left; (next => first | (simp; done) | (simp; omega) | omega)))) (by rfl) (World.news_of_block (heap_alloc_new _ _)) (by simp) (newRun_reps _ _ q) (by simp [maxLen]; omega) (by omega) ?_
        intro v7 w7 hR7 hF7 ho7
        obtain ⟨A7, c7, rfl, hc7⟩ := hR7.row.slice
        have hb6 : Below w5.heap.size w5 (w5.alloc (Obj.cells #[.string q, .bool false, .bool false, .string ⟨#[]⟩, .int .i64 0, .int .i64 0, .slice none 0 0] 126)).drew := by repeat (first | (with_reducible exact Below.refl _ _) | (with_reducible exact Below.refl _ _) | (with_reducible refine below_al ?_ _) | (with_reducible refine below_dr ?_ _) | (with_reducible refine below_d1 ?_) | ((with_reducible refine Below.setCell ?_ ?_ _); rotate_left; (next => first | (simp; done) | (simp; omega) | omega)))
        have hm7 := Asd.mk (MFr.part (hm5.out.trans (MFr.of_below hb6)) hF7 (fun b hb => hrr2.out b (by simpa using hb)))
        have g7 : w7.heap[kb]? = _ := (hF7.block kb (Nat.lt_of_lt_of_le z5 hb6.size) (fun hx => hap.out kb (by simpa using hx) rfl)).trans ((hb6.block kb z5).trans hg5.out)
        have t1 := cellOf g7 (i := 1) rfl
        have tf := frozenOf g7 1
        obtain ⟨a7, c7', he7, t3⟩ := str_elem (hq.out w7 hm7.out) hlt
        cases he7
        rw [hqq.out] at t3
        have ho8 := Asd.mk (show ∀ b, (Value.slice A7 (lr.length + 1) c7).ownBlock = some b → (Value.slice Br lr.length dr).ownBlock = some b ∨ w5.heap.size ≤ b from fun b hb => (ho7 b hb).imp id (fun h => Nat.le_trans hb6.size h))
        clear ho7 hb6 hF7
        replace hR7 := Asd.mk hR7
        replace g7 := Asd.mk g7
        refine hK.out _ _ (fun _ => ⟨t1, t3⟩) ?_
        clear hK K
        (try simp only [Act.put, List.setIfInBounds_toArray, List.set_cons_zero, List.set_cons_succ])
        have hH : w7.cell? ⟨kb, 1, none⟩ = some (.slice Br lr.length dr) ∧ w7.cell? (a.add k) = some (.string q) := ⟨t1, t3⟩
        (refine wpG_one (i := 12) (by kernel_rfl) rfl (fun K hK => ?_))
        go_simp
        refine hK.out _ _ (fun _ => ⟨t1, t3⟩) ?_
        clear hK K
        (try simp only [Act.put, List.setIfInBounds_toArray, List.set_cons_zero, List.set_cons_succ])
        ((refine wpG_take (i := 13) (v := ?_) rfl rfl (by kernel_rfl) (by kernel_rfl) (by kernel_rfl) (by kernel_rfl) (fun _ _ _ h => h) (Or.inl ⟨by rfl, ?_⟩) (by assumption) ?_; rotate_left; (next => ((intro X hX; (try dsimp only at hX); go_simp); try with_reducible rfl))); (try simp only [Act.put, List.setIfInBounds_toArray, List.set_cons_zero, List.set_cons_succ]))
        (refine wpG_one (i := 14) (by kernel_rfl) rfl (fun K hK => ?_))
        go_simp
        refine hK.out _ _ (fun h => absurd rfl h) ?_
        clear hK K hH
        refine wpG_done (by kernel_rfl) ?_ _
        go_wp2
        go_roundw
        case rel =>
          refine ⟨k + 1, by omega, by go_num, .slice A7 (lr.length + 1) c7, ?_, hm7.out.trans (MFr.of_set _ (by simp)), fun b hb => ?_⟩
          · rw [e1.out, eQ.out]
            refine ⟨by simpa using heap_set1 g7.out 1 (.slice A7 (lr.length + 1) c7), ?_, fun b hb => ?_⟩
            · have := hR7.out.go (MFr.of_set (p := ⟨kb, 1, none⟩) (.slice A7 (lr.length + 1) c7) (by simp)) (fun b hb => ?_)
              · rw [List.length_append, List.flatMap_append]
                simpa using this
              · rcases ho8.out b hb with h | h
                · simp; exact hap.out b h
                · simp; omega
            · rcases ho8.out b hb with h | h
              · exact hap.out b h
              · omega
          · rcases ho8.out b hb with h | h
            · exact hrr2.out b h
            · have := hz5.out; right; omega
        case measure => simp [intOf]; omega
    · obtain rfl : k = qs.length := by omega
      have e1 := Asd.mk (wuTo_end W l qs)
      go_wp2
      go_end0
      exact ⟨rfl, rr, by rw [← e1.out]; exact hKr, hm, hrr⟩
end Go.Proofs.Ytmjfkjdfmpileaa.M
end
section
set_option linter.unusedVariables false
set_option linter.unusedSimpArgs false
namespace Go.Proofs.Ytmjfkjdfmpileaa.M
open Go.RowKit
theorem rootsOk_len {xs : List ByteArray} (h : inB xs.length 1 10 = false) : rootsOk xs = false := by unfold rootsOk; rw [h]; rfl
theorem rootsOk_no {xs : List ByteArray} (h : namesOk xs = false) : rootsOk xs = false := by unfold rootsOk; rw [h]; simp
theorem rootsOk_yes {xs : List ByteArray} (h : inB xs.length 1 10 = true) (h2 : namesOk xs = true) : rootsOk xs = true := by unfold rootsOk; rw [h, h2]; rfl
set_option maxRecDepth 100000 in
set_option maxHeartbeats 1000000 in
theorem goodRoots_calls {t : Nat} (xs : List ByteArray) (v : Value) (w : World) (h : rep w (strsT t xs) v) :
    Calls Try.prog 62 #[v] w fun e w' => e = .returned (.bool (rootsOk xs)) ∧ w = w' := by
  obtain ⟨A, c, rfl, hc, hn⟩ := rep_len h
  by_cases q : inB xs.length 1 10 = true
  rotate_left
  · have q := Bool.eq_false_iff.2 q
    have e1 := Asd.mk (rootsOk_len q)
    go_enter Try.func62, Try.ntmps62
    go_wp2_with (first | (go_at_call 71; refine (in_calls _ _ _ _).mono ?_; rintro e w' ⟨rfl, rfl⟩))
    go_ret
    exact ⟨by rw [e1.out]; rfl, rfl⟩
  have Q := Asd.mk q
  replace h := Asd.mk h
  go_enter Try.func62, Try.ntmps62
  go_wp2_with (first | (go_at_call 71; refine (in_calls _ _ _ _).mono ?_; rintro e w' ⟨rfl, rfl⟩))
  go_loop [11] (fun i => ∃ k : Nat, k ≤ xs.length ∧ i = .int .i64 k ∧ nmTo xs k) (fun i => xs.length - (intOf i).toNat)
  case atStart => exact ⟨0, by omega, rfl, nmTo_zero _⟩
  case round =>
    obtain ⟨k, hk, rfl, hA⟩ := hrel
    by_cases hlt : k < xs.length
    · obtain ⟨a, c', he, hcell⟩ := str_elem h.out hlt
      cases he
      have ht := rep_take h.out (fun _ => rfl) hk
      by_cases hx : nameOk xs[k] = true
      · by_cases hy : xs[k] ∈ xs.take k
        · have e1 := Asd.mk (rootsOk_no (namesOk_not hlt (.inr hy)))
          go_wp2_with (first | (go_at_call 38; refine (goodName_calls _ _).mono ?_; rintro e w' ⟨rfl, rfl⟩) | (go_at_call 93; refine (Contains_calls _ _ _ _ ht).mono ?_; rintro e w' ⟨rfl, rfl⟩))
          go_ret
          exact ⟨by rw [e1.out]; rfl, rfl⟩
        · have e1 := nmTo_succ hA hlt hx hy
          go_wp2_with (first | (go_at_call 38; refine (goodName_calls _ _).mono ?_; rintro e w' ⟨rfl, rfl⟩) | (go_at_call 93; refine (Contains_calls _ _ _ _ ht).mono ?_; rintro e w' ⟨rfl, rfl⟩))
          go_round
          case rel => exact ⟨k + 1, by omega, by go_num, e1⟩
          case measure => simp [intOf]; omega
      · have hx := Bool.eq_false_iff.2 hx
        have e1 := Asd.mk (rootsOk_no (namesOk_not hlt (.inl hx)))
        go_wp2_with (first | (go_at_call 38; refine (goodName_calls _ _).mono ?_; rintro e w' ⟨rfl, rfl⟩))
        go_ret
        exact ⟨by rw [e1.out]; rfl, rfl⟩
    · obtain rfl : k = xs.length := by omega
      have e1 := Asd.mk (rootsOk_yes Q.out ((namesOk_iff _).2 hA))
      go_wp2
      go_ret
      exact ⟨by rw [e1.out]; rfl, rfl⟩
set_option maxRecDepth 100000 in
set_option maxHeartbeats 1000000 in
theorem l3RootsOk_calls {t : Nat} (xs : List ByteArray) (v : Value) (w : World) (h : rep w (strsT t xs) v) :
    Calls Try.prog 59 #[v] w fun e w' => e = .returned (.bool (rootsOk xs)) ∧ Below w.heap.size w w' := by
  obtain ⟨A, c, rfl, hc, hn⟩ := rep_len h
  replace h := Asd.mk h
  by_cases q : inB xs.length 1 10 = true
  rotate_left
  · have q := Bool.eq_false_iff.2 q
    have e1 := Asd.mk (rootsOk_len q)
    go_enter Try.func59, Try.ntmps59
    go_wp2_with (first | (go_at_call 70; refine (l1In_calls _ _ _ _).mono ?_; rintro e w' ⟨rfl, rfl⟩))
    go_ret
    exact ⟨by rw [e1.out]; rfl, Below.refl _ _⟩
  have e1 := Asd.mk (show rootsOk xs = namesOk xs by unfold rootsOk; rw [q]; rfl)
  go_enter Try.func59, Try.ntmps59
  go_wp2_with (first | (go_at_call 70; refine (l1In_calls _ _ _ _).mono ?_; rintro e w' ⟨rfl, rfl⟩))
  refine (l1Names_calls xs _ _ h.out).mono ?_
  rintro e w1 ⟨rfl, hb⟩
  go_wp2
  go_ret
  exact ⟨by rw [e1.out]; rfl, hb⟩
end Go.Proofs.Ytmjfkjdfmpileaa.M
end
