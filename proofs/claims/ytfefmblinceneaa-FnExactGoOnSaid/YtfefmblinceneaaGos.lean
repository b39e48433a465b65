/- Contracts: the reference's GoOn. -/
import Derived.Test.YtfefmblinceneaaFol
import Derived.Test.YtfefmblinceneaaSst
set_option linter.unusedVariables false
set_option linter.unusedSimpArgs false
namespace Go.Proofs.Ytfefmblinceneaa.M
open Go.RowKit

theorem follow_none {s : Step} {xs : List Answer} (h : noFail xs xs.length) (hx : ¬0 < xs.length) : followS s xs = ⟨0, false, s.Else, ⟨#[]⟩⟩ := follow_else0 h (by omega)
set_option maxRecDepth 100000 in
set_option maxHeartbeats 2000000 in
theorem sGoOn_calls {tS tC tA : Nat} (x : Action) (at_ : Int) (xs : List Answer) (v : Value) (w : World) {vs : List Value} (h : reps w (x.c tS tC) vs) (h' : rep w (AnswersT tA xs) v) (hz : x.Sm) (hy : ∀ y ∈ xs, y.Text.size ≤ 9223372036854775807) :
    Calls Try.prog 18 #[.agg vs.toArray, .int .i64 at_, v] w fun e w' => e = .returned (goneV (goOn x at_ xs)) ∧ Below w.heap.size w w' := by
  obtain ⟨v1, rfl, h1⟩ := Action.ropen h
  obtain ⟨A1, c1, rfl, _, hn1⟩ := rep_len h1
  obtain ⟨A2, c2, rfl, _, hn2⟩ := rep_len h'
  replace h1 := Asd.mk h1
  replace h' := Asd.mk h'
  replace hy := Asd.mk hy
  clear h
  by_cases p1 : actionOk x = true
  rotate_left
  · replace p1 := Bool.eq_false_iff.2 p1
    have e1 := Hid.mk' (goOn_bad (at_ := at_) (xs := xs) p1)
    go_enter Try.func18, Try.ntmps18
    go_wp2_with (fail)
    refine (sValidAction_calls x _ (Action.rmk _ (h1.out.below (below_al (below_al (Below.refl _ _) _) _))) hz).mono ?_
    rintro e w2 ⟨rfl, hb2⟩
    obtain ⟨W, hW⟩ : ∃ W : World, W = (w.alloc (.cells #[.int .i64 x.Cost, .slice A1 x.Steps.length c1] 30)).alloc (.cells #[.int .i64 0, .bool false, .int .i64 0, .string ⟨#[]⟩] 48) := ⟨_, rfl⟩
    rw [← hW] at hb2
    have sW : W.heap.size = w.heap.size + 1 + 1 := by rw [hW]; simp
    have hbW : Below w.heap.size w W := by rw [hW]; exact below_al (below_al (Below.refl _ _) _) _
    have a0 : w2.cell? ⟨w.heap.size, 0, none⟩ = some (.int .i64 x.Cost) := by rw [hb2.cell (by simp; omega), hW]; go_simp
    have a1 : w2.cell? ⟨w.heap.size, 1, none⟩ = some (.slice A1 x.Steps.length c1) := by rw [hb2.cell (by simp; omega), hW]; go_simp
    have r0 : w2.cell? ⟨w.heap.size + 1, 0, none⟩ = some (.int .i64 0) := by rw [hb2.cell (by simp; omega), hW]; go_simp
    have r1 : w2.cell? ⟨w.heap.size + 1, 1, none⟩ = some (.bool false) := by rw [hb2.cell (by simp; omega), hW]; go_simp
    have r2 : w2.cell? ⟨w.heap.size + 1, 2, none⟩ = some (.int .i64 0) := by rw [hb2.cell (by simp; omega), hW]; go_simp
    have r3 : w2.cell? ⟨w.heap.size + 1, 3, none⟩ = some (.string ⟨#[]⟩) := by rw [hb2.cell (by simp; omega), hW]; go_simp
    have f0 : ∀ o, w2.frozen? ⟨w.heap.size + 1, o, none⟩ = false := by intro o; rw [hb2.frozen (by simp; omega), hW]; go_simp
    have hbw := below_st hbW hb2
    have z1 : w.heap.size < w2.heap.size := by have := hb2.size; omega
    have z2 : w.heap.size + 1 < w2.heap.size := by have := hb2.size; omega
    clear hW
    go_wp2
    refine bodyPost_ret (v := .agg #[.int .i64 1, .bool false, .int .i64 0, .string ⟨#[]⟩]) (by simp [results, Try.results18, go_sem, *]) rfl ?_
    exact ⟨by rw [e1.out]; rfl, by repeat (first | (with_reducible exact Below.refl _ _) | (with_reducible exact hbw) | (with_reducible refine below_al ?_ _) | (with_reducible refine below_dr ?_ _) | ((with_reducible refine Below.setCell ?_ ?_ _); rotate_left; (next => first | (simp; done) | (simp; omega) | omega)))⟩
  by_cases p2 : inB at_ 0 (x.Steps.length - 1) = true
  rotate_left
  · replace p2 := Bool.eq_false_iff.2 p2
    have e1 := Hid.mk' (goOn_out (xs := xs) p2)
    go_enter Try.func18, Try.ntmps18
    go_wp2_with (fail)
    refine (sValidAction_calls x _ (Action.rmk _ (h1.out.below (below_al (below_al (Below.refl _ _) _) _))) hz).mono ?_
    rintro e w2 ⟨rfl, hb2⟩
    obtain ⟨W, hW⟩ : ∃ W : World, W = (w.alloc (.cells #[.int .i64 x.Cost, .slice A1 x.Steps.length c1] 30)).alloc (.cells #[.int .i64 0, .bool false, .int .i64 0, .string ⟨#[]⟩] 48) := ⟨_, rfl⟩
    rw [← hW] at hb2
    have sW : W.heap.size = w.heap.size + 1 + 1 := by rw [hW]; simp
    have hbW : Below w.heap.size w W := by rw [hW]; exact below_al (below_al (Below.refl _ _) _) _
    have a0 : w2.cell? ⟨w.heap.size, 0, none⟩ = some (.int .i64 x.Cost) := by rw [hb2.cell (by simp; omega), hW]; go_simp
    have a1 : w2.cell? ⟨w.heap.size, 1, none⟩ = some (.slice A1 x.Steps.length c1) := by rw [hb2.cell (by simp; omega), hW]; go_simp
    have r0 : w2.cell? ⟨w.heap.size + 1, 0, none⟩ = some (.int .i64 0) := by rw [hb2.cell (by simp; omega), hW]; go_simp
    have r1 : w2.cell? ⟨w.heap.size + 1, 1, none⟩ = some (.bool false) := by rw [hb2.cell (by simp; omega), hW]; go_simp
    have r2 : w2.cell? ⟨w.heap.size + 1, 2, none⟩ = some (.int .i64 0) := by rw [hb2.cell (by simp; omega), hW]; go_simp
    have r3 : w2.cell? ⟨w.heap.size + 1, 3, none⟩ = some (.string ⟨#[]⟩) := by rw [hb2.cell (by simp; omega), hW]; go_simp
    have f0 : ∀ o, w2.frozen? ⟨w.heap.size + 1, o, none⟩ = false := by intro o; rw [hb2.frozen (by simp; omega), hW]; go_simp
    have hbw := below_st hbW hb2
    have z1 : w.heap.size < w2.heap.size := by have := hb2.size; omega
    have z2 : w.heap.size + 1 < w2.heap.size := by have := hb2.size; omega
    clear hW
    go_wp2_with (first | (go_at_call 24; refine (l1In_calls _ _ _ _).mono ?_; rintro e w' ⟨rfl, rfl⟩))
    refine bodyPost_ret (v := .agg #[.int .i64 1, .bool false, .int .i64 0, .string ⟨#[]⟩]) (by simp [results, Try.results18, go_sem, *]) rfl ?_
    exact ⟨by rw [e1.out]; rfl, by repeat (first | (with_reducible exact Below.refl _ _) | (with_reducible exact hbw) | (with_reducible refine below_al ?_ _) | (with_reducible refine below_dr ?_ _) | ((with_reducible refine Below.setCell ?_ ?_ _); rotate_left; (next => first | (simp; done) | (simp; omega) | omega)))⟩
  obtain ⟨n, rfl⟩ : ∃ n : Nat, at_ = n := ⟨at_.toNat, by simp [inB] at p2; omega⟩
  have hn : n < x.Steps.length := by simp [inB] at p2; omega
  have i1 : (0 : Int) ≤ (n : Int) := by omega
  have i2 : (n : Int) < (x.Steps.length : Int) := by omega
  by_cases p3 : x.Steps[n].End = true
  · have e1 := Hid.mk' (goOn_end (xs := xs) hn p3)
    go_enter Try.func18, Try.ntmps18
    go_wp2_with (fail)
    refine (sValidAction_calls x _ (Action.rmk _ (h1.out.below (below_al (below_al (Below.refl _ _) _) _))) hz).mono ?_
    rintro e w2 ⟨rfl, hb2⟩
    obtain ⟨W, hW⟩ : ∃ W : World, W = (w.alloc (.cells #[.int .i64 x.Cost, .slice A1 x.Steps.length c1] 30)).alloc (.cells #[.int .i64 0, .bool false, .int .i64 0, .string ⟨#[]⟩] 48) := ⟨_, rfl⟩
    rw [← hW] at hb2
    have sW : W.heap.size = w.heap.size + 1 + 1 := by rw [hW]; simp
    have hbW : Below w.heap.size w W := by rw [hW]; exact below_al (below_al (Below.refl _ _) _) _
    have a0 : w2.cell? ⟨w.heap.size, 0, none⟩ = some (.int .i64 x.Cost) := by rw [hb2.cell (by simp; omega), hW]; go_simp
    have a1 : w2.cell? ⟨w.heap.size, 1, none⟩ = some (.slice A1 x.Steps.length c1) := by rw [hb2.cell (by simp; omega), hW]; go_simp
    have r0 : w2.cell? ⟨w.heap.size + 1, 0, none⟩ = some (.int .i64 0) := by rw [hb2.cell (by simp; omega), hW]; go_simp
    have r1 : w2.cell? ⟨w.heap.size + 1, 1, none⟩ = some (.bool false) := by rw [hb2.cell (by simp; omega), hW]; go_simp
    have r2 : w2.cell? ⟨w.heap.size + 1, 2, none⟩ = some (.int .i64 0) := by rw [hb2.cell (by simp; omega), hW]; go_simp
    have r3 : w2.cell? ⟨w.heap.size + 1, 3, none⟩ = some (.string ⟨#[]⟩) := by rw [hb2.cell (by simp; omega), hW]; go_simp
    have f0 : ∀ o, w2.frozen? ⟨w.heap.size + 1, o, none⟩ = false := by intro o; rw [hb2.frozen (by simp; omega), hW]; go_simp
    have hbw := below_st hbW hb2
    have z1 : w.heap.size < w2.heap.size := by have := hb2.size; omega
    have z2 : w.heap.size + 1 < w2.heap.size := by have := hb2.size; omega
    clear hW
    obtain ⟨a, d, v0, v2, he, k0, k1, k2, k3, k4, k5, k6, k7, g0, g2, mr⟩ := Step.elem (h1.out.below hbw) hn
    cases he
    obtain ⟨B0, b0, rfl, _, _⟩ := rep_len g0
    obtain ⟨B2, b2, rfl, _, _⟩ := rep_len g2
    replace g0 := Asd.mk g0
    replace g2 := Asd.mk g2
    clear mr
    go_wp2_with (first | (go_at_call 24; refine (l1In_calls _ _ _ _).mono ?_; rintro e w' ⟨rfl, rfl⟩))
    refine bodyPost_ret (v := .agg #[.int .i64 1, .bool false, .int .i64 0, .string ⟨#[]⟩]) (by simp [results, Try.results18, go_sem, *]) rfl ?_
    exact ⟨by rw [e1.out]; rfl, by repeat (first | (with_reducible exact Below.refl _ _) | (with_reducible exact hbw) | (with_reducible refine below_al ?_ _) | (with_reducible refine below_dr ?_ _) | ((with_reducible refine Below.setCell ?_ ?_ _); rotate_left; (next => first | (simp; done) | (simp; omega) | omega)))⟩
  replace p3 := Bool.eq_false_iff.2 p3
  by_cases p4 : xs.length = x.Steps[n].Asks.length
  rotate_left
  · have e1 := Hid.mk' (goOn_len (xs := xs) hn p4)
    have i3 : ¬((xs.length : Int) = (x.Steps[n].Asks.length : Int)) := by omega
    go_enter Try.func18, Try.ntmps18
    go_wp2_with (fail)
    refine (sValidAction_calls x _ (Action.rmk _ (h1.out.below (below_al (below_al (Below.refl _ _) _) _))) hz).mono ?_
    rintro e w2 ⟨rfl, hb2⟩
    obtain ⟨W, hW⟩ : ∃ W : World, W = (w.alloc (.cells #[.int .i64 x.Cost, .slice A1 x.Steps.length c1] 30)).alloc (.cells #[.int .i64 0, .bool false, .int .i64 0, .string ⟨#[]⟩] 48) := ⟨_, rfl⟩
    rw [← hW] at hb2
    have sW : W.heap.size = w.heap.size + 1 + 1 := by rw [hW]; simp
    have hbW : Below w.heap.size w W := by rw [hW]; exact below_al (below_al (Below.refl _ _) _) _
    have a0 : w2.cell? ⟨w.heap.size, 0, none⟩ = some (.int .i64 x.Cost) := by rw [hb2.cell (by simp; omega), hW]; go_simp
    have a1 : w2.cell? ⟨w.heap.size, 1, none⟩ = some (.slice A1 x.Steps.length c1) := by rw [hb2.cell (by simp; omega), hW]; go_simp
    have r0 : w2.cell? ⟨w.heap.size + 1, 0, none⟩ = some (.int .i64 0) := by rw [hb2.cell (by simp; omega), hW]; go_simp
    have r1 : w2.cell? ⟨w.heap.size + 1, 1, none⟩ = some (.bool false) := by rw [hb2.cell (by simp; omega), hW]; go_simp
    have r2 : w2.cell? ⟨w.heap.size + 1, 2, none⟩ = some (.int .i64 0) := by rw [hb2.cell (by simp; omega), hW]; go_simp
    have r3 : w2.cell? ⟨w.heap.size + 1, 3, none⟩ = some (.string ⟨#[]⟩) := by rw [hb2.cell (by simp; omega), hW]; go_simp
    have f0 : ∀ o, w2.frozen? ⟨w.heap.size + 1, o, none⟩ = false := by intro o; rw [hb2.frozen (by simp; omega), hW]; go_simp
    have hbw := below_st hbW hb2
    have z1 : w.heap.size < w2.heap.size := by have := hb2.size; omega
    have z2 : w.heap.size + 1 < w2.heap.size := by have := hb2.size; omega
    clear hW
    obtain ⟨a, d, v0, v2, he, k0, k1, k2, k3, k4, k5, k6, k7, g0, g2, mr⟩ := Step.elem (h1.out.below hbw) hn
    cases he
    obtain ⟨B0, b0, rfl, _, _⟩ := rep_len g0
    obtain ⟨B2, b2, rfl, _, _⟩ := rep_len g2
    replace g0 := Asd.mk g0
    replace g2 := Asd.mk g2
    clear mr
    go_wp2_with (first | (go_at_call 24; refine (l1In_calls _ _ _ _).mono ?_; rintro e w' ⟨rfl, rfl⟩))
    refine bodyPost_ret (v := .agg #[.int .i64 1, .bool false, .int .i64 0, .string ⟨#[]⟩]) (by simp [results, Try.results18, go_sem, *]) rfl ?_
    exact ⟨by rw [e1.out]; rfl, by repeat (first | (with_reducible exact Below.refl _ _) | (with_reducible exact hbw) | (with_reducible refine below_al ?_ _) | (with_reducible refine below_dr ?_ _) | ((with_reducible refine Below.setCell ?_ ?_ _); rotate_left; (next => first | (simp; done) | (simp; omega) | omega)))⟩
  go_enter Try.func18, Try.ntmps18
  go_wp2_with (fail)
  refine (sValidAction_calls x _ (Action.rmk _ (h1.out.below (below_al (below_al (Below.refl _ _) _) _))) hz).mono ?_
  rintro e w2 ⟨rfl, hb2⟩
  obtain ⟨W, hW⟩ : ∃ W : World, W = (w.alloc (.cells #[.int .i64 x.Cost, .slice A1 x.Steps.length c1] 30)).alloc (.cells #[.int .i64 0, .bool false, .int .i64 0, .string ⟨#[]⟩] 48) := ⟨_, rfl⟩
  rw [← hW] at hb2
  have sW : W.heap.size = w.heap.size + 1 + 1 := by rw [hW]; simp
  have hbW : Below w.heap.size w W := by rw [hW]; exact below_al (below_al (Below.refl _ _) _) _
  have a0 : w2.cell? ⟨w.heap.size, 0, none⟩ = some (.int .i64 x.Cost) := by rw [hb2.cell (by simp; omega), hW]; go_simp
  have a1 : w2.cell? ⟨w.heap.size, 1, none⟩ = some (.slice A1 x.Steps.length c1) := by rw [hb2.cell (by simp; omega), hW]; go_simp
  have r0 : w2.cell? ⟨w.heap.size + 1, 0, none⟩ = some (.int .i64 0) := by rw [hb2.cell (by simp; omega), hW]; go_simp
  have r1 : w2.cell? ⟨w.heap.size + 1, 1, none⟩ = some (.bool false) := by rw [hb2.cell (by simp; omega), hW]; go_simp
  have r2 : w2.cell? ⟨w.heap.size + 1, 2, none⟩ = some (.int .i64 0) := by rw [hb2.cell (by simp; omega), hW]; go_simp
  have r3 : w2.cell? ⟨w.heap.size + 1, 3, none⟩ = some (.string ⟨#[]⟩) := by rw [hb2.cell (by simp; omega), hW]; go_simp
  have f0 : ∀ o, w2.frozen? ⟨w.heap.size + 1, o, none⟩ = false := by intro o; rw [hb2.frozen (by simp; omega), hW]; go_simp
  have hbw := below_st hbW hb2
  have z1 : w.heap.size < w2.heap.size := by have := hb2.size; omega
  have z2 : w.heap.size + 1 < w2.heap.size := by have := hb2.size; omega
  clear hW
  obtain ⟨a, d, v0, v2, he, k0, k1, k2, k3, k4, k5, k6, k7, g0, g2, mr⟩ := Step.elem (h1.out.below hbw) hn
  cases he
  obtain ⟨B0, b0, rfl, _, _⟩ := rep_len g0
  obtain ⟨B2, b2, rfl, _, _⟩ := rep_len g2
  replace g0 := Asd.mk g0
  replace g2 := Asd.mk g2
  clear mr
  go_wp2_with (first | (go_at_call 24; refine (l1In_calls _ _ _ _).mono ?_; rintro e w' ⟨rfl, rfl⟩))
  have on1 := Asd.mk (step_on p1 hn p3 p4)
  have as1 := Asd.mk (step_asks p1 hn p3)
  have fl1 := step_fall p1 hn p3
  obtain ⟨w3, hw3⟩ : ∃ w3 : World, w3 = w2.alloc (.cells #[.slice B0 x.Steps[n].Asks.length b0, .int .i64 x.Steps[n].On, .slice B2 x.Steps[n].Cases.length b2, .int .i64 x.Steps[n].Else, .int .i64 x.Steps[n].Fall, .bool false, .bool x.Steps[n].Bad, .string x.Steps[n].Give] 61) := ⟨_, rfl⟩
  have s3 : w3.heap.size = w2.heap.size + 1 := by rw [hw3]; simp
  have hb3 : Below w2.heap.size w2 w3 := by rw [hw3]; exact below_al (Below.refl _ _) _
  have q0 : w3.cell? ⟨w2.heap.size, 0, none⟩ = some (.slice B0 x.Steps[n].Asks.length b0) := by rw [hw3]; go_simp
  have q1 : w3.cell? ⟨w2.heap.size, 1, none⟩ = some (.int .i64 x.Steps[n].On) := by rw [hw3]; go_simp
  have q2 : w3.cell? ⟨w2.heap.size, 2, none⟩ = some (.slice B2 x.Steps[n].Cases.length b2) := by rw [hw3]; go_simp
  have q3 : w3.cell? ⟨w2.heap.size, 3, none⟩ = some (.int .i64 x.Steps[n].Else) := by rw [hw3]; go_simp
  have q4 : w3.cell? ⟨w2.heap.size, 4, none⟩ = some (.int .i64 x.Steps[n].Fall) := by rw [hw3]; go_simp
  obtain ⟨hcx, hfx⟩ := bcell hb3
  replace r0 : w3.cell? ⟨w.heap.size + 1, 0, none⟩ = some (.int .i64 0) := by rw [hcx _ _ z2]; exact r0
  replace r1 : w3.cell? ⟨w.heap.size + 1, 1, none⟩ = some (.bool false) := by rw [hcx _ _ z2]; exact r1
  replace r2 : w3.cell? ⟨w.heap.size + 1, 2, none⟩ = some (.int .i64 0) := by rw [hcx _ _ z2]; exact r2
  replace r3 : w3.cell? ⟨w.heap.size + 1, 3, none⟩ = some (.string ⟨#[]⟩) := by rw [hcx _ _ z2]; exact r3
  replace f0 : ∀ o, w3.frozen? ⟨w.heap.size + 1, o, none⟩ = false := by intro o; rw [hfx _ _ z2]; exact f0 o
  have hbz := below_st hbw hb3
  replace g0 := Asd.mk (g0.out.below hb3)
  replace g2 := Asd.mk (g2.out.below hb3)
  replace h' := Asd.mk (h'.out.below hbz)
  clear k0 k1 k2 k3 k4 k5 k6 k7 a0 a1 hb2 hcx hfx hb3 hbw
  go_loopw [8] (fun i wr => ∃ k : Nat, k ≤ xs.length ∧ i = .int .i64 k ∧ allTo textOk xs k ∧ Below w3.heap.size w3 wr) (fun i _ => xs.length - (intOf i).toNat)
  case atStart => exact ⟨0, by omega, rfl, allTo_zero _ _, by rw [hw3]; exact Below.refl _ _⟩
  case round =>
    clear hw3
    have z3 : w2.heap.size < w3.heap.size := by omega
    have z4 : w.heap.size + 1 < w3.heap.size := by omega
    obtain ⟨k, hk, rfl, hA, hbr⟩ := hrel
    obtain ⟨hcx, hfx⟩ := bcell hbr
    have z5 : w2.heap.size < wr.heap.size := by have := hbr.size; omega
    have z6 : w.heap.size + 1 < wr.heap.size := by have := hbr.size; omega
    have hbq := below_st hbz hbr
    by_cases hlt : k < xs.length
    · obtain ⟨y, c', he, m0, m1, mr⟩ := Answer.elem (h'.out.below hbr) hlt
      have hq := hy.out _ (List.getElem_mem hlt)
      rw [p4] at he
      cases he
      clear mr
      by_cases hx : xs[k].Text.size ≤ 200
      · have e1 := allTo_succ (p := textOk) hA hlt (by simp [textOk, hx])
        have i4 : ¬((200 : Int) < (xs[k].Text.size : Int)) := by omega
        go_wp2
        go_roundw
        case rel => exact ⟨k + 1, by omega, by go_num, e1, hbr⟩
        case measure => simp [intOf]; omega
      · have e1 := Hid.mk' (goOn_text (a := x) (n := n) (textOk_no hlt hx))
        have i4 : ((200 : Int) < (xs[k].Text.size : Int)) := by omega
        go_wp2
        refine bodyPost_ret (v := .agg #[.int .i64 1, .bool false, .int .i64 0, .string ⟨#[]⟩]) (by simp [results, Try.results18, go_sem, *]) rfl ?_
        exact ⟨by rw [e1.out]; rfl, by repeat (first | (with_reducible exact Below.refl _ _) | (with_reducible exact hbq) | (with_reducible refine below_al ?_ _) | (with_reducible refine below_dr ?_ _) | ((with_reducible refine Below.setCell ?_ ?_ _); rotate_left; (next => first | (simp; done) | (simp; omega) | omega)))⟩
    · obtain rfl : k = xs.length := by omega
      have E1 := Asd.mk (goOn_yes hn p1 p2 p3 p4 (allTo_end hA))
      clear hA hlt hk hcx hfx
      obtain ⟨wo, hwo⟩ : ∃ wo : World, wo = wr := ⟨_, rfl⟩
      subst hwo
      go_wp2
      go_loopw [9] (fun i wr => ∃ k : Nat, k ≤ xs.length ∧ i = .int .i64 k ∧ noFail xs k ∧ Below w3.heap.size w3 wr) (fun i _ => xs.length - (intOf i).toNat)
      case atStart => exact ⟨0, by omega, rfl, noFail_zero _, hbr⟩
      case round =>
        clear hbr z5 z6 hbq
        obtain ⟨k, hk, rfl, hA, hbr⟩ := hrel
        obtain ⟨hcx, hfx⟩ := bcell hbr
        have z5 : w2.heap.size < wr.heap.size := by have := hbr.size; omega
        have z6 : w.heap.size + 1 < wr.heap.size := by have := hbr.size; omega
        have hbq := below_st hbz hbr
        by_cases hlt : k < xs.length
        · obtain ⟨y, c', he, m0, m1, mr⟩ := Answer.elem (h'.out.below hbr) hlt
          rw [p4] at he
          cases he
          clear mr
          have hka : k < x.Steps[n].Asks.length := by omega
          by_cases hx : xs[k].Fail = true
          · by_cases hF : x.Steps[n].Fall = -1
            · have e1 := Hid.mk' (follow_over (s := x.Steps[n]) hA hlt hx (by omega) hka)
              obtain ⟨t, y, he, m3⟩ := str_elem (g0.out.below hbr) hka
              have hq := as1.out _ (List.getElem_mem hka)
              cases he
              go_wp2
              refine bodyPost_ret (v := .agg #[.int .i64 0, .bool true, .int .i64 0, .string (⟨#[98, 101, 108, 111, 119, 32]⟩ ++ x.Steps[n].Asks[k])]) (by simp [results, Try.results18, go_sem, *]) rfl ?_
              exact ⟨by rw [E1.out, e1.out]; rfl, by repeat (first | (with_reducible exact Below.refl _ _) | (with_reducible exact hbq) | (with_reducible refine below_al ?_ _) | (with_reducible refine below_dr ?_ _) | ((with_reducible refine Below.setCell ?_ ?_ _); rotate_left; (next => first | (simp; done) | (simp; omega) | omega)))⟩
            · have e1 := Hid.mk' (follow_fall (s := x.Steps[n]) hA hlt hx (by omega))
              go_wp2
              refine bodyPost_ret (v := .agg #[.int .i64 0, .bool false, .int .i64 x.Steps[n].Fall, .string ⟨#[]⟩]) (by simp [results, Try.results18, go_sem, *]) rfl ?_
              exact ⟨by rw [E1.out, e1.out]; rfl, by repeat (first | (with_reducible exact Below.refl _ _) | (with_reducible exact hbq) | (with_reducible refine below_al ?_ _) | (with_reducible refine below_dr ?_ _) | ((with_reducible refine Below.setCell ?_ ?_ _); rotate_left; (next => first | (simp; done) | (simp; omega) | omega)))⟩
          · replace hx := Bool.eq_false_iff.2 hx
            have e1 := noFail_succ hA hlt hx
            go_wp2
            go_roundw
            case rel => exact ⟨k + 1, by omega, by go_num, e1, hbr⟩
            case measure => simp [intOf]; omega
        · obtain rfl : k = xs.length := by omega
          have hN := Asd.mk hA
          clear hA hlt hk
          by_cases h0 : 0 < xs.length
          · obtain ⟨hon1, hon2⟩ := on1.out h0
            obtain ⟨o, ho⟩ : ∃ o : Nat, x.Steps[n].On = o := ⟨x.Steps[n].On.toNat, by omega⟩
            have hol : o < xs.length := by omega
            have hot : onText x.Steps[n] xs = xs[o].Text := by simp [onText, ho, List.getD_eq_getElem?_getD, hol]
            have i0 : ¬((xs.length : Int) = 0) := by omega
            have i1' : ¬((x.Steps[n].Asks.length : Int) = 0) := by omega
            clear hcx hfx
            obtain ⟨wo, hwo⟩ : ∃ wo : World, wo = wr := ⟨_, rfl⟩
            subst hwo
            go_wp2
            go_loopw [10] (fun i wr => ∃ k : Nat, k ≤ x.Steps[n].Cases.length ∧ i = .int .i64 k ∧ noCase xs[o].Text x.Steps[n].Cases k ∧ Below w3.heap.size w3 wr) (fun i _ => x.Steps[n].Cases.length - (intOf i).toNat)
            case atStart => exact ⟨0, by omega, rfl, noCase_zero _ _, hbr⟩
            case round =>
              clear hbr z5 z6 hbq
              obtain ⟨k, hk, rfl, hA, hbr⟩ := hrel
              obtain ⟨hcx, hfx⟩ := bcell hbr
              have z5 : w2.heap.size < wr.heap.size := by have := hbr.size; omega
              have z6 : w.heap.size + 1 < wr.heap.size := by have := hbr.size; omega
              have hbq := below_st hbz hbr
              by_cases hlt : k < x.Steps[n].Cases.length
              · obtain ⟨y, c', he, m0, m1, mr⟩ := Case.elem (g2.out.below hbr) hlt
                cases he
                clear mr
                obtain ⟨u, c', he, n0, n1, nr⟩ := Answer.elem (h'.out.below hbr) hol
                rw [p4] at he
                cases he
                clear nr n0
                have i5 : ((o : Int) : Int) < (xs.length : Int) := by omega
                have i6 : ((o : Int) : Int) < (x.Steps[n].Asks.length : Int) := by omega
                have i7 : (0 : Int) ≤ (o : Int) := by omega
                by_cases hx : caseIs xs[o].Text x.Steps[n].Cases[k] = true
                · have e1 := Hid.mk' (follow_goto hN.out h0 (by rw [hot]; exact hA) hlt (by rw [hot]; exact hx))
                  have hx' : (x.Steps[n].Cases[k].Text.toList == xs[o].Text.toList) = true := hx
                  go_wp2
                  go_quiet (fail)
                  go_wp2
                  refine bodyPost_ret (v := .agg #[.int .i64 0, .bool false, .int .i64 x.Steps[n].Cases[k].Goto, .string ⟨#[]⟩]) (by simp [results, Try.results18, go_sem, *]) rfl ?_
                  exact ⟨by rw [E1.out, e1.out]; rfl, by repeat (first | (with_reducible exact Below.refl _ _) | (with_reducible exact hbq) | (with_reducible refine below_al ?_ _) | (with_reducible refine below_dr ?_ _) | ((with_reducible refine Below.setCell ?_ ?_ _); rotate_left; (next => first | (simp; done) | (simp; omega) | omega)))⟩
                · replace hx := Bool.eq_false_iff.2 hx
                  have e1 := noCase_succ hA hlt hx
                  have hx' : (x.Steps[n].Cases[k].Text.toList == xs[o].Text.toList) = false := hx
                  go_wp2
                  go_quiet (fail)
                  go_wp2
                  go_roundw
                  case rel => exact ⟨k + 1, by omega, by go_num, e1, below_dr hbr _⟩
                  case measure => simp [intOf]; omega
              · obtain rfl : k = x.Steps[n].Cases.length := by omega
                have e1 := Hid.mk' (follow_else hN.out (by rw [hot]; exact hA))
                go_wp2
                refine bodyPost_ret (v := .agg #[.int .i64 0, .bool false, .int .i64 x.Steps[n].Else, .string ⟨#[]⟩]) (by simp [results, Try.results18, go_sem, *]) rfl ?_
                exact ⟨by rw [E1.out, e1.out]; rfl, by repeat (first | (with_reducible exact Below.refl _ _) | (with_reducible exact hbq) | (with_reducible refine below_al ?_ _) | (with_reducible refine below_dr ?_ _) | ((with_reducible refine Below.setCell ?_ ?_ _); rotate_left; (next => first | (simp; done) | (simp; omega) | omega)))⟩
          · have e1 := Hid.mk' (follow_none (s := x.Steps[n]) hN.out h0)
            have i0 : ((xs.length : Int) = 0) := by omega
            have i1' : ((x.Steps[n].Asks.length : Int) = 0) := by omega
            go_wp2
            refine bodyPost_ret (v := .agg #[.int .i64 0, .bool false, .int .i64 x.Steps[n].Else, .string ⟨#[]⟩]) (by simp [results, Try.results18, go_sem, *]) rfl ?_
            exact ⟨by rw [E1.out, e1.out]; rfl, by repeat (first | (with_reducible exact Below.refl _ _) | (with_reducible exact hbq) | (with_reducible refine below_al ?_ _) | (with_reducible refine below_dr ?_ _) | ((with_reducible refine Below.setCell ?_ ?_ _); rotate_left; (next => first | (simp; done) | (simp; omega) | omega)))⟩

end Go.Proofs.Ytfefmblinceneaa.M
