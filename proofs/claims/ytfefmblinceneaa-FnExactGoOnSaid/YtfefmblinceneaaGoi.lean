/- Contracts: GoOn. -/
import Derived.Test.YtfefmblinceneaaFol
set_option linter.unusedVariables false
set_option linter.unusedSimpArgs false
namespace Go.Proofs.Ytfefmblinceneaa.M
open Go.RowKit

set_option maxRecDepth 100000 in
set_option maxHeartbeats 2000000 in
theorem GoOn_calls {tS tC tA : Nat} (x : Action) (at_ : Int) (xs : List Answer) (v : Value) (w : World) {vs : List Value} (h : reps w (x.c tS tC) vs) (h' : rep w (AnswersT tA xs) v) (hz : x.Sm) (hy : ∀ y ∈ xs, y.Text.size ≤ 9223372036854775807) :
    Calls Try.prog 20 #[.agg vs.toArray, .int .i64 at_, v] w fun e w' => e = .returned (goneV (goOn x at_ xs)) ∧ Below w.heap.size w w' := by
  obtain ⟨v1, rfl, h1⟩ := Action.ropen h
  obtain ⟨A1, c1, rfl, _, hn1⟩ := rep_len h1
  obtain ⟨A2, c2, rfl, _, hn2⟩ := rep_len h'
  replace h1 := Asd.mk h1
  replace h' := Asd.mk h'
  replace hy := Asd.mk hy
  clear h
  by_cases p1 : actionOk x = true
  rotate_left
  · replace p1 := Bool.eq_false_iff.2 p1
    have e1 := Hid.mk' (goOn_bad (at_ := at_) (xs := xs) p1)
    go_enter Try.func20, Try.ntmps20
    go_wp2_with (fail)
    refine (ValidAction_calls x _ (Action.rmk _ (h1.out.below (below_al (below_al (Below.refl _ _) _) _))) hz).mono ?_
    rintro e w2 ⟨rfl, hb2⟩
    obtain ⟨W, hW⟩ : ∃ W : World, W = (w.alloc (.cells #[.int .i64 x.Cost, .slice A1 x.Steps.length c1] 30)).alloc (.cells #[.int .i64 0, .bool false, .int .i64 0, .string ⟨#[]⟩] 48) := ⟨_, rfl⟩
    rw [← hW] at hb2
    have sW : W.heap.size = w.heap.size + 1 + 1 := by rw [hW]; simp
    have hbW : Below w.heap.size w W := by rw [hW]; exact below_al (below_al (Below.refl _ _) _) _
    have a0 : w2.cell? ⟨w.heap.size, 0, none⟩ = some (.int .i64 x.Cost) := by rw [hb2.cell (by simp; omega), hW]; go_simp
    have a1 : w2.cell? ⟨w.heap.size, 1, none⟩ = some (.slice A1 x.Steps.length c1) := by rw [hb2.cell (by simp; omega), hW]; go_simp
    have r0 : w2.cell? ⟨w.heap.size + 1, 0, none⟩ = some (.int .i64 0) := by rw [hb2.cell (by simp; omega), hW]; go_simp
    have r1 : w2.cell? ⟨w.heap.size + 1, 1, none⟩ = some (.bool false) := by rw [hb2.cell (by simp; omega), hW]; go_simp
    have r2 : w2.cell? ⟨w.heap.size + 1, 2, none⟩ = some (.int .i64 0) := by rw [hb2.cell (by simp; omega), hW]; go_simp
    have r3 : w2.cell? ⟨w.heap.size + 1, 3, none⟩ = some (.string ⟨#[]⟩) := by rw [hb2.cell (by simp; omega), hW]; go_simp
    have f0 : ∀ o, w2.frozen? ⟨w.heap.size + 1, o, none⟩ = false := by intro o; rw [hb2.frozen (by simp; omega), hW]; go_simp
    have hbw := below_st hbW hb2
    have z1 : w.heap.size < w2.heap.size := by have := hb2.size; omega
    have z2 : w.heap.size + 1 < w2.heap.size := by have := hb2.size; omega
    clear hW
    go_wp2
    refine bodyPost_ret (v := .agg #[.int .i64 1, .bool false, .int .i64 0, .string ⟨#[]⟩]) (by simp [results, Try.results20, go_sem, *]) rfl ?_
    exact ⟨by rw [e1.out]; rfl, by repeat (first | (with_reducible exact Below.refl _ _) | (with_reducible exact hbw) | (with_reducible refine below_al ?_ _) | (with_reducible refine below_dr ?_ _) | ((with_reducible refine Below.setCell ?_ ?_ _); rotate_left; (next => first | (simp; done) | (simp; omega) | omega)))⟩
  by_cases p2 : inB at_ 0 (x.Steps.length - 1) = true
  rotate_left
  · replace p2 := Bool.eq_false_iff.2 p2
    have e1 := Hid.mk' (goOn_out (xs := xs) p2)
    go_enter Try.func20, Try.ntmps20
    go_wp2_with (fail)
    refine (ValidAction_calls x _ (Action.rmk _ (h1.out.below (below_al (below_al (Below.refl _ _) _) _))) hz).mono ?_
    rintro e w2 ⟨rfl, hb2⟩
    obtain ⟨W, hW⟩ : ∃ W : World, W = (w.alloc (.cells #[.int .i64 x.Cost, .slice A1 x.Steps.length c1] 30)).alloc (.cells #[.int .i64 0, .bool false, .int .i64 0, .string ⟨#[]⟩] 48) := ⟨_, rfl⟩
    rw [← hW] at hb2
    have sW : W.heap.size = w.heap.size + 1 + 1 := by rw [hW]; simp
    have hbW : Below w.heap.size w W := by rw [hW]; exact below_al (below_al (Below.refl _ _) _) _
    have a0 : w2.cell? ⟨w.heap.size, 0, none⟩ = some (.int .i64 x.Cost) := by rw [hb2.cell (by simp; omega), hW]; go_simp
    have a1 : w2.cell? ⟨w.heap.size, 1, none⟩ = some (.slice A1 x.Steps.length c1) := by rw [hb2.cell (by simp; omega), hW]; go_simp
    have r0 : w2.cell? ⟨w.heap.size + 1, 0, none⟩ = some (.int .i64 0) := by rw [hb2.cell (by simp; omega), hW]; go_simp
    have r1 : w2.cell? ⟨w.heap.size + 1, 1, none⟩ = some (.bool false) := by rw [hb2.cell (by simp; omega), hW]; go_simp
    have r2 : w2.cell? ⟨w.heap.size + 1, 2, none⟩ = some (.int .i64 0) := by rw [hb2.cell (by simp; omega), hW]; go_simp
    have r3 : w2.cell? ⟨w.heap.size + 1, 3, none⟩ = some (.string ⟨#[]⟩) := by rw [hb2.cell (by simp; omega), hW]; go_simp
    have f0 : ∀ o, w2.frozen? ⟨w.heap.size + 1, o, none⟩ = false := by intro o; rw [hb2.frozen (by simp; omega), hW]; go_simp
    have hbw := below_st hbW hb2
    have z1 : w.heap.size < w2.heap.size := by have := hb2.size; omega
    have z2 : w.heap.size + 1 < w2.heap.size := by have := hb2.size; omega
    clear hW
    go_wp2_with (first | (go_at_call 27; refine (in_calls _ _ _ _).mono ?_; rintro e w' ⟨rfl, rfl⟩))
    refine bodyPost_ret (v := .agg #[.int .i64 1, .bool false, .int .i64 0, .string ⟨#[]⟩]) (by simp [results, Try.results20, go_sem, *]) rfl ?_
    exact ⟨by rw [e1.out]; rfl, by repeat (first | (with_reducible exact Below.refl _ _) | (with_reducible exact hbw) | (with_reducible refine below_al ?_ _) | (with_reducible refine below_dr ?_ _) | ((with_reducible refine Below.setCell ?_ ?_ _); rotate_left; (next => first | (simp; done) | (simp; omega) | omega)))⟩
  obtain ⟨n, rfl⟩ : ∃ n : Nat, at_ = n := ⟨at_.toNat, by simp [inB] at p2; omega⟩
  have hn : n < x.Steps.length := by simp [inB] at p2; omega
  have i1 : (0 : Int) ≤ (n : Int) := by omega
  have i2 : (n : Int) < (x.Steps.length : Int) := by omega
  by_cases p3 : x.Steps[n].End = true
  · have e1 := Hid.mk' (goOn_end (xs := xs) hn p3)
    go_enter Try.func20, Try.ntmps20
    go_wp2_with (fail)
    refine (ValidAction_calls x _ (Action.rmk _ (h1.out.below (below_al (below_al (Below.refl _ _) _) _))) hz).mono ?_
    rintro e w2 ⟨rfl, hb2⟩
    obtain ⟨W, hW⟩ : ∃ W : World, W = (w.alloc (.cells #[.int .i64 x.Cost, .slice A1 x.Steps.length c1] 30)).alloc (.cells #[.int .i64 0, .bool false, .int .i64 0, .string ⟨#[]⟩] 48) := ⟨_, rfl⟩
    rw [← hW] at hb2
    have sW : W.heap.size = w.heap.size + 1 + 1 := by rw [hW]; simp
    have hbW : Below w.heap.size w W := by rw [hW]; exact below_al (below_al (Below.refl _ _) _) _
    have a0 : w2.cell? ⟨w.heap.size, 0, none⟩ = some (.int .i64 x.Cost) := by rw [hb2.cell (by simp; omega), hW]; go_simp
    have a1 : w2.cell? ⟨w.heap.size, 1, none⟩ = some (.slice A1 x.Steps.length c1) := by rw [hb2.cell (by simp; omega), hW]; go_simp
    have r0 : w2.cell? ⟨w.heap.size + 1, 0, none⟩ = some (.int .i64 0) := by rw [hb2.cell (by simp; omega), hW]; go_simp
    have r1 : w2.cell? ⟨w.heap.size + 1, 1, none⟩ = some (.bool false) := by rw [hb2.cell (by simp; omega), hW]; go_simp
    have r2 : w2.cell? ⟨w.heap.size + 1, 2, none⟩ = some (.int .i64 0) := by rw [hb2.cell (by simp; omega), hW]; go_simp
    have r3 : w2.cell? ⟨w.heap.size + 1, 3, none⟩ = some (.string ⟨#[]⟩) := by rw [hb2.cell (by simp; omega), hW]; go_simp
    have f0 : ∀ o, w2.frozen? ⟨w.heap.size + 1, o, none⟩ = false := by intro o; rw [hb2.frozen (by simp; omega), hW]; go_simp
    have hbw := below_st hbW hb2
    have z1 : w.heap.size < w2.heap.size := by have := hb2.size; omega
    have z2 : w.heap.size + 1 < w2.heap.size := by have := hb2.size; omega
    clear hW
    obtain ⟨a, d, v0, v2, he, k0, k1, k2, k3, k4, k5, k6, k7, g0, g2, mr⟩ := Step.elem (h1.out.below hbw) hn
    cases he
    obtain ⟨B0, b0, rfl, _, _⟩ := rep_len g0
    obtain ⟨B2, b2, rfl, _, _⟩ := rep_len g2
    replace g0 := Asd.mk g0
    replace g2 := Asd.mk g2
    clear mr
    go_wp2_with (first | (go_at_call 27; refine (in_calls _ _ _ _).mono ?_; rintro e w' ⟨rfl, rfl⟩))
    refine bodyPost_ret (v := .agg #[.int .i64 1, .bool false, .int .i64 0, .string ⟨#[]⟩]) (by simp [results, Try.results20, go_sem, *]) rfl ?_
    exact ⟨by rw [e1.out]; rfl, by repeat (first | (with_reducible exact Below.refl _ _) | (with_reducible exact hbw) | (with_reducible refine below_al ?_ _) | (with_reducible refine below_dr ?_ _) | ((with_reducible refine Below.setCell ?_ ?_ _); rotate_left; (next => first | (simp; done) | (simp; omega) | omega)))⟩
  replace p3 := Bool.eq_false_iff.2 p3
  by_cases p4 : xs.length = x.Steps[n].Asks.length
  rotate_left
  · have e1 := Hid.mk' (goOn_len (xs := xs) hn p4)
    have i3 : ¬((xs.length : Int) = (x.Steps[n].Asks.length : Int)) := by omega
    go_enter Try.func20, Try.ntmps20
    go_wp2_with (fail)
    refine (ValidAction_calls x _ (Action.rmk _ (h1.out.below (below_al (below_al (Below.refl _ _) _) _))) hz).mono ?_
    rintro e w2 ⟨rfl, hb2⟩
    obtain ⟨W, hW⟩ : ∃ W : World, W = (w.alloc (.cells #[.int .i64 x.Cost, .slice A1 x.Steps.length c1] 30)).alloc (.cells #[.int .i64 0, .bool false, .int .i64 0, .string ⟨#[]⟩] 48) := ⟨_, rfl⟩
    rw [← hW] at hb2
    have sW : W.heap.size = w.heap.size + 1 + 1 := by rw [hW]; simp
    have hbW : Below w.heap.size w W := by rw [hW]; exact below_al (below_al (Below.refl _ _) _) _
    have a0 : w2.cell? ⟨w.heap.size, 0, none⟩ = some (.int .i64 x.Cost) := by rw [hb2.cell (by simp; omega), hW]; go_simp
    have a1 : w2.cell? ⟨w.heap.size, 1, none⟩ = some (.slice A1 x.Steps.length c1) := by rw [hb2.cell (by simp; omega), hW]; go_simp
    have r0 : w2.cell? ⟨w.heap.size + 1, 0, none⟩ = some (.int .i64 0) := by rw [hb2.cell (by simp; omega), hW]; go_simp
    have r1 : w2.cell? ⟨w.heap.size + 1, 1, none⟩ = some (.bool false) := by rw [hb2.cell (by simp; omega), hW]; go_simp
    have r2 : w2.cell? ⟨w.heap.size + 1, 2, none⟩ = some (.int .i64 0) := by rw [hb2.cell (by simp; omega), hW]; go_simp
    have r3 : w2.cell? ⟨w.heap.size + 1, 3, none⟩ = some (.string ⟨#[]⟩) := by rw [hb2.cell (by simp; omega), hW]; go_simp
    have f0 : ∀ o, w2.frozen? ⟨w.heap.size + 1, o, none⟩ = false := by intro o; rw [hb2.frozen (by simp; omega), hW]; go_simp
    have hbw := below_st hbW hb2
    have z1 : w.heap.size < w2.heap.size := by have := hb2.size; omega
    have z2 : w.heap.size + 1 < w2.heap.size := by have := hb2.size; omega
    clear hW
    obtain ⟨a, d, v0, v2, he, k0, k1, k2, k3, k4, k5, k6, k7, g0, g2, mr⟩ := Step.elem (h1.out.below hbw) hn
    cases he
    obtain ⟨B0, b0, rfl, _, _⟩ := rep_len g0
    obtain ⟨B2, b2, rfl, _, _⟩ := rep_len g2
    replace g0 := Asd.mk g0
    replace g2 := Asd.mk g2
    clear mr
    go_wp2_with (first | (go_at_call 27; refine (in_calls _ _ _ _).mono ?_; rintro e w' ⟨rfl, rfl⟩))
    refine bodyPost_ret (v := .agg #[.int .i64 1, .bool false, .int .i64 0, .string ⟨#[]⟩]) (by simp [results, Try.results20, go_sem, *]) rfl ?_
    exact ⟨by rw [e1.out]; rfl, by repeat (first | (with_reducible exact Below.refl _ _) | (with_reducible exact hbw) | (with_reducible refine below_al ?_ _) | (with_reducible refine below_dr ?_ _) | ((with_reducible refine Below.setCell ?_ ?_ _); rotate_left; (next => first | (simp; done) | (simp; omega) | omega)))⟩
  go_enter Try.func20, Try.ntmps20
  go_wp2_with (fail)
  refine (ValidAction_calls x _ (Action.rmk _ (h1.out.below (below_al (below_al (Below.refl _ _) _) _))) hz).mono ?_
  rintro e w2 ⟨rfl, hb2⟩
  obtain ⟨W, hW⟩ : ∃ W : World, W = (w.alloc (.cells #[.int .i64 x.Cost, .slice A1 x.Steps.length c1] 30)).alloc (.cells #[.int .i64 0, .bool false, .int .i64 0, .string ⟨#[]⟩] 48) := ⟨_, rfl⟩
  rw [← hW] at hb2
  have sW : W.heap.size = w.heap.size + 1 + 1 := by rw [hW]; simp
  have hbW : Below w.heap.size w W := by rw [hW]; exact below_al (below_al (Below.refl _ _) _) _
  have a0 : w2.cell? ⟨w.heap.size, 0, none⟩ = some (.int .i64 x.Cost) := by rw [hb2.cell (by simp; omega), hW]; go_simp
  have a1 : w2.cell? ⟨w.heap.size, 1, none⟩ = some (.slice A1 x.Steps.length c1) := by rw [hb2.cell (by simp; omega), hW]; go_simp
  have r0 : w2.cell? ⟨w.heap.size + 1, 0, none⟩ = some (.int .i64 0) := by rw [hb2.cell (by simp; omega), hW]; go_simp
  have r1 : w2.cell? ⟨w.heap.size + 1, 1, none⟩ = some (.bool false) := by rw [hb2.cell (by simp; omega), hW]; go_simp
  have r2 : w2.cell? ⟨w.heap.size + 1, 2, none⟩ = some (.int .i64 0) := by rw [hb2.cell (by simp; omega), hW]; go_simp
  have r3 : w2.cell? ⟨w.heap.size + 1, 3, none⟩ = some (.string ⟨#[]⟩) := by rw [hb2.cell (by simp; omega), hW]; go_simp
  have f0 : ∀ o, w2.frozen? ⟨w.heap.size + 1, o, none⟩ = false := by intro o; rw [hb2.frozen (by simp; omega), hW]; go_simp
  have hbw := below_st hbW hb2
  have z1 : w.heap.size < w2.heap.size := by have := hb2.size; omega
  have z2 : w.heap.size + 1 < w2.heap.size := by have := hb2.size; omega
  clear hW
  obtain ⟨a, d, v0, v2, he, k0, k1, k2, k3, k4, k5, k6, k7, g0, g2, mr⟩ := Step.elem (h1.out.below hbw) hn
  cases he
  obtain ⟨B0, b0, rfl, _, _⟩ := rep_len g0
  obtain ⟨B2, b2, rfl, _, _⟩ := rep_len g2
  replace g0 := Asd.mk g0
  replace g2 := Asd.mk g2
  clear mr
  go_wp2_with (first | (go_at_call 27; refine (in_calls _ _ _ _).mono ?_; rintro e w' ⟨rfl, rfl⟩))
  go_loopw [44] (fun i wr => ∃ k : Nat, k ≤ xs.length ∧ i = .int .i64 k ∧ allTo textOk xs k ∧ Below w2.heap.size w2 wr) (fun i _ => xs.length - (intOf i).toNat)
  case atStart => exact ⟨0, by omega, rfl, allTo_zero _ _, Below.refl _ _⟩
  case round =>
    clear k0 k1 k2 k3 k4 k5 k6 k7
    obtain ⟨k, hk, rfl, hA, hbr⟩ := hrel
    have hbq := below_st hbw hbr
    obtain ⟨hcx, hfx⟩ := bcell hbr
    have z3 : w.heap.size < wr.heap.size := by have := hbr.size; omega
    have z4 : w.heap.size + 1 < wr.heap.size := by have := hbr.size; omega
    by_cases hlt : k < xs.length
    · obtain ⟨y, c', he, m0, m1, mr⟩ := Answer.elem (h'.out.below hbq) hlt
      have hq := hy.out _ (List.getElem_mem hlt)
      rw [p4] at he
      cases he
      clear mr
      by_cases hx : xs[k].Text.size ≤ 200
      · have e1 := allTo_succ (p := textOk) hA hlt (by simp [textOk, hx])
        have i4 : ¬((200 : Int) < (xs[k].Text.size : Int)) := by omega
        go_wp2
        go_roundw
        case rel => exact ⟨k + 1, by omega, by go_num, e1, below_al hbr _⟩
        case measure => simp [intOf]; omega
      · have e1 := Hid.mk' (goOn_text (a := x) (n := n) (textOk_no hlt hx))
        have i4 : ((200 : Int) < (xs[k].Text.size : Int)) := by omega
        go_wp2
        refine bodyPost_ret (v := .agg #[.int .i64 1, .bool false, .int .i64 0, .string ⟨#[]⟩]) (by simp [results, Try.results20, go_sem, *]) rfl ?_
        exact ⟨by rw [e1.out]; rfl, by repeat (first | (with_reducible exact Below.refl _ _) | (with_reducible exact hbq) | (with_reducible refine below_al ?_ _) | (with_reducible refine below_dr ?_ _) | ((with_reducible refine Below.setCell ?_ ?_ _); rotate_left; (next => first | (simp; done) | (simp; omega) | omega)))⟩
    · obtain rfl : k = xs.length := by omega
      have e1 := Hid.mk' (goOn_yes hn p1 p2 p3 p4 (allTo_end hA))
      have on1 := step_on p1 hn p3 p4
      have as1 := step_asks p1 hn p3
      go_wp2_with (fail)
      have h'' := h'.out.below hbq
      rw [p4] at h''
      refine (follow_calls x n xs _ _ (Action.rmk _ (h1.out.below hbq)) h'' hn p4 on1 as1).mono ?_
      rintro e w3 ⟨rfl, hb3⟩
      rw [goneV]
      have hbz := below_st hbq hb3
      obtain ⟨hcx3, hfx3⟩ := bcell hb3
      have z5 : w.heap.size + 1 < w3.heap.size := by have := hb3.size; omega
      go_wp2
      refine bodyPost_ret (v := .agg #[.int .i64 (followS x.Steps[n] xs).Code, .bool (followS x.Steps[n] xs).Over, .int .i64 (followS x.Steps[n] xs).At, .string (followS x.Steps[n] xs).Text]) (by simp [results, Try.results20, go_sem, *]) rfl ?_
      exact ⟨by rw [e1.out]; rfl, by repeat (first | (with_reducible exact Below.refl _ _) | (with_reducible exact hbz) | (with_reducible refine below_al ?_ _) | (with_reducible refine below_dr ?_ _) | ((with_reducible refine Below.setCell ?_ ?_ _); rotate_left; (next => first | (simp; done) | (simp; omega) | omega)))⟩

end Go.Proofs.Ytfefmblinceneaa.M
