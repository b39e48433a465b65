/- Contracts: follow. -/
import Derived.Test.YtfefmblinceneaaVac
import Derived.Test.YtfefmblinceneaaPuG
set_option linter.unusedVariables false
set_option linter.unusedSimpArgs false
namespace Go.Proofs.Ytfefmblinceneaa.M
open Go.RowKit

set_option maxRecDepth 100000 in
set_option maxHeartbeats 2000000 in
theorem follow_calls {tS tC tA : Nat} (x : Action) (at_ : Nat) (xs : List Answer) (v : Value) (w : World) {vs : List Value} (h : reps w (x.c tS tC) vs) (h' : rep w (AnswersT tA xs) v)
    (hat : at_ < x.Steps.length) (hlen : xs.length = x.Steps[at_].Asks.length) (hon : 0 < xs.length → 0 ≤ x.Steps[at_].On ∧ x.Steps[at_].On < xs.length) (hz : ∀ q ∈ x.Steps[at_].Asks, q.size ≤ 1000000) :
    Calls Try.prog 37 #[.agg vs.toArray, .int .i64 at_, v] w fun e w' => e = .returned (goneV (followS x.Steps[at_] xs)) ∧ Below w.heap.size w w' := by
  obtain ⟨v1, rfl, h1⟩ := Action.ropen h
  obtain ⟨A1, c1, rfl, _, hn1⟩ := rep_len h1
  obtain ⟨A2, c2, rfl, _, hn2⟩ := rep_len h'
  replace h1 := Asd.mk h1
  replace h' := Asd.mk h'
  clear h
  obtain ⟨W, hW⟩ : ∃ W : World, W = (w.alloc (.cells #[.int .i64 x.Cost, .slice A1 x.Steps.length c1] 30)).alloc (.cells #[.int .i64 0, .bool false, .int .i64 0, .string ⟨#[]⟩] 48) := ⟨_, rfl⟩
  have hb : Below w.heap.size w W := by rw [hW]; exact below_al (below_al (Below.refl _ _) _) _
  obtain ⟨a, d, v0, v2, he, k0, k1, k2, k3, k4, k5, k6, k7, g0, g2, hr⟩ := Step.elem (h1.out.below hb) hat
  rw [hW] at k0 k1 k2 k3 k4 k5 k6 k7
  cases he
  replace hW := Asd.mk hW
  generalize hs : x.Steps[at_] = s at *
  replace hs := Asd.mk hs
  obtain ⟨B0, b0, rfl, _, _⟩ := rep_len g0
  obtain ⟨B2, b2, rfl, _, _⟩ := rep_len g2
  replace g0 := Asd.mk g0
  replace g2 := Asd.mk g2
  replace hlen := Asd.mk hlen
  replace hon := Asd.mk hon
  replace hz := Asd.mk hz
  clear hr
  go_enter Try.func37, Try.ntmps37
  go_wp2
  obtain ⟨w3, hw3⟩ : ∃ w3 : World, w3 = ((w.alloc (.cells #[.int .i64 x.Cost, .slice (some a) x.Steps.length c1] 30)).alloc (.cells #[.int .i64 0, .bool false, .int .i64 0, .string ⟨#[]⟩] 48)).alloc (.cells #[.slice B0 s.Asks.length b0, .int .i64 s.On, .slice B2 s.Cases.length b2, .int .i64 s.Else, .int .i64 s.Fall, .bool s.End, .bool s.Bad, .string s.Give] 61) := ⟨_, rfl⟩
  have s3 : w3.heap.size = w.heap.size + 1 + 1 + 1 := by rw [hw3]; simp
  have hb3 : Below w.heap.size w w3 := by rw [hw3]; exact below_al (below_al (below_al (Below.refl _ _) _) _) _
  have r0 : w3.cell? ⟨w.heap.size + 1, 0, none⟩ = some (.int .i64 0) := by rw [hw3]; go_simp
  have r1 : w3.cell? ⟨w.heap.size + 1, 1, none⟩ = some (.bool false) := by rw [hw3]; go_simp
  have r2 : w3.cell? ⟨w.heap.size + 1, 2, none⟩ = some (.int .i64 0) := by rw [hw3]; go_simp
  have r3 : w3.cell? ⟨w.heap.size + 1, 3, none⟩ = some (.string ⟨#[]⟩) := by rw [hw3]; go_simp
  have f0 : ∀ o, w3.frozen? ⟨w.heap.size + 1, o, none⟩ = false := by intro o; rw [hw3]; go_simp
  have q0 : w3.cell? ⟨w.heap.size + 1 + 1, 0, none⟩ = some (.slice B0 s.Asks.length b0) := by rw [hw3]; go_simp
  have q1 : w3.cell? ⟨w.heap.size + 1 + 1, 1, none⟩ = some (.int .i64 s.On) := by rw [hw3]; go_simp
  have q2 : w3.cell? ⟨w.heap.size + 1 + 1, 2, none⟩ = some (.slice B2 s.Cases.length b2) := by rw [hw3]; go_simp
  have q3 : w3.cell? ⟨w.heap.size + 1 + 1, 3, none⟩ = some (.int .i64 s.Else) := by rw [hw3]; go_simp
  have q4 : w3.cell? ⟨w.heap.size + 1 + 1, 4, none⟩ = some (.int .i64 s.Fall) := by rw [hw3]; go_simp
  have hbW : Below W.heap.size W w3 := by rw [hw3, ← hW.out]; exact below_al (Below.refl _ _) _
  go_loopw [19] (fun i wr => ∃ k : Nat, k ≤ xs.length ∧ i = .int .i64 k ∧ noFail xs k ∧ Below w3.heap.size w3 wr) (fun i _ => xs.length - (intOf i).toNat)
  case atStart => exact ⟨0, by omega, rfl, noFail_zero _, by rw [hw3]; exact Below.refl _ _⟩
  case round =>
    clear hw3 k0 k1 k2 k3 k4 k5 k6 k7
    obtain ⟨k, hk, rfl, hA, hbr⟩ := hrel
    have hbw := below_st hb3 hbr
    obtain ⟨hcx, hfx⟩ := bcell hbr
    have z1 : w.heap.size + 1 < w3.heap.size := by omega
    have z2 : w.heap.size + 1 + 1 < w3.heap.size := by omega
    have z3 : w3.heap.size ≤ wr.heap.size := hbr.size
    have z4 : w.heap.size + 1 < wr.heap.size := by omega
    have z5 : w.heap.size + 1 + 1 < wr.heap.size := by omega
    by_cases hlt : k < xs.length
    · obtain ⟨y, c', he, m0, m1, mr⟩ := Answer.elem (h'.out.below hbw) hlt
      cases he
      clear mr
      by_cases hx : xs[k].Fail = true
      · by_cases hF : s.Fall < 0
        · have e1 := Hid.mk' (follow_over (s := s) hA hlt hx hF (by rw [← hlen.out]; exact hlt))
          have hka : k < s.Asks.length := by rw [← hlen.out]; exact hlt
          obtain ⟨t, y, he, m3⟩ := str_elem (g0.out.below (below_al (below_st hbW hbr) (.cells #[.bool true, .string xs[k].Text] 73))) hka
          have hq := hz.out _ (List.getElem_mem hka)
          cases he
          go_wp2
          refine bodyPost_ret (v := .agg #[.int .i64 0, .bool true, .int .i64 0, .string (⟨#[98, 101, 108, 111, 119, 32]⟩ ++ s.Asks[k])]) (by simp [results, Try.results37, go_sem, *]) rfl ?_
          exact ⟨by rw [e1.out]; rfl, by repeat (first | (with_reducible exact Below.refl _ _) | (with_reducible exact hbw) | (with_reducible refine below_al ?_ _) | (with_reducible refine below_dr ?_ _) | ((with_reducible refine Below.setCell ?_ ?_ _); rotate_left; (next => first | (simp; done) | (simp; omega) | omega)))⟩
        · have e1 := Hid.mk' (follow_fall (s := s) hA hlt hx hF)
          go_wp2
          refine bodyPost_ret (v := .agg #[.int .i64 0, .bool false, .int .i64 s.Fall, .string ⟨#[]⟩]) (by simp [results, Try.results37, go_sem, *]) rfl ?_
          exact ⟨by rw [e1.out]; rfl, by repeat (first | (with_reducible exact Below.refl _ _) | (with_reducible exact hbw) | (with_reducible refine below_al ?_ _) | (with_reducible refine below_dr ?_ _) | ((with_reducible refine Below.setCell ?_ ?_ _); rotate_left; (next => first | (simp; done) | (simp; omega) | omega)))⟩
      · replace hx := Bool.eq_false_iff.2 hx
        have e1 := noFail_succ hA hlt hx
        go_wp2
        go_roundw
        case rel => exact ⟨k + 1, by omega, by go_num, e1, below_al hbr _⟩
        case measure => simp [intOf]; omega
    · obtain rfl : k = xs.length := by omega
      have hN := Asd.mk hA
      clear hA hk hlt z3 z4 z5
      have e0 : xs.length = 0 → Hid (followS s xs = ⟨0, false, s.Else, ⟨#[]⟩⟩) := fun h0 => Hid.mk' (follow_else0 hN.out h0)
      by_cases h0 : 0 < xs.length
      · obtain ⟨hon1, hon2⟩ := hon.out h0
        obtain ⟨o, ho⟩ : ∃ o : Nat, s.On = o := ⟨s.On.toNat, by omega⟩
        have hol : o < xs.length := by omega
        have hot : onText s xs = xs[o].Text := by simp [onText, ho, List.getD_eq_getElem?_getD, hol]
        clear e0
        obtain ⟨w4, hw4⟩ : ∃ w4 : World, w4 = wr := ⟨_, rfl⟩
        subst hw4
        have z4 : w.heap.size + 1 < w4.heap.size := by have := hbr.size; omega
        have z5 : w.heap.size + 1 + 1 < w4.heap.size := by have := hbr.size; omega
        go_wp2
        replace hcx := Asd.mk hcx
        replace hfx := Asd.mk hfx
        go_loopw [46] (fun i wr => ∃ k : Nat, k ≤ s.Cases.length ∧ i = .int .i64 k ∧ noCase xs[o].Text s.Cases k ∧ Below w4.heap.size w4 wr) (fun i _ => s.Cases.length - (intOf i).toNat)
        case atStart => exact ⟨0, by omega, rfl, noCase_zero _ _, Below.refl _ _⟩
        case round =>
          obtain ⟨k, hk, rfl, hA, hbq⟩ := hrel
          have hbq3 := below_st hbr hbq
          have hbwq := below_st hbw hbq
          obtain ⟨hcq, hfq⟩ := bcell hbq3
          have z6 : w4.heap.size ≤ wr.heap.size := hbq.size
          have z7 : w.heap.size + 1 < wr.heap.size := by omega
          have z8 : w.heap.size + 1 + 1 < wr.heap.size := by omega
          by_cases hlt : k < s.Cases.length
          · obtain ⟨y, c', he, m0, m1, mr⟩ := Case.elem (g2.out.below (below_st hbW hbq3)) hlt
            cases he
            clear mr
            obtain ⟨u, c', he, n0, n1, nr⟩ := Answer.elem (h'.out.below (below_al hbwq (.cells #[.string s.Cases[k].Text, .int .i64 s.Cases[k].Goto] 75))) hol
            cases he
            clear nr n0
            have i0 : ((o : Int) : Int) < (xs.length : Int) := by omega
            by_cases hx : caseIs xs[o].Text s.Cases[k] = true
            · have e1 := Hid.mk' (follow_goto hN.out h0 (by rw [hot]; exact hA) hlt (by rw [hot]; exact hx))
              have hx' : (s.Cases[k].Text.toList == xs[o].Text.toList) = true := hx
              go_wp2
              go_quiet (fail)
              go_wp2
              refine bodyPost_ret (v := .agg #[.int .i64 0, .bool false, .int .i64 s.Cases[k].Goto, .string ⟨#[]⟩]) (by simp [results, Try.results37, go_sem, *]) rfl ?_
              exact ⟨by rw [e1.out]; rfl, by repeat (first | (with_reducible exact Below.refl _ _) | (with_reducible exact hbwq) | (with_reducible refine below_al ?_ _) | (with_reducible refine below_dr ?_ _) | ((with_reducible refine Below.setCell ?_ ?_ _); rotate_left; (next => first | (simp; done) | (simp; omega) | omega)))⟩
            · replace hx := Bool.eq_false_iff.2 hx
              have e1 := noCase_succ hA hlt hx
              have hx' : (s.Cases[k].Text.toList == xs[o].Text.toList) = false := hx
              go_wp2
              go_quiet (fail)
              go_wp2
              go_roundw
              case rel => exact ⟨k + 1, by omega, by go_num, e1, below_dr (below_al hbq _) _⟩
              case measure => simp [intOf]; omega
          · obtain rfl : k = s.Cases.length := by omega
            have e1 := Hid.mk' (follow_else hN.out (by rw [hot]; exact hA))
            go_wp2
            refine bodyPost_ret (v := .agg #[.int .i64 0, .bool false, .int .i64 s.Else, .string ⟨#[]⟩]) (by simp [results, Try.results37, go_sem, *]) rfl ?_
            exact ⟨by rw [e1.out]; rfl, by repeat (first | (with_reducible exact Below.refl _ _) | (with_reducible exact hbwq) | (with_reducible refine below_al ?_ _) | (with_reducible refine below_dr ?_ _) | ((with_reducible refine Below.setCell ?_ ?_ _); rotate_left; (next => first | (simp; done) | (simp; omega) | omega)))⟩
      · have e1 := e0 (by omega)
        have z4 : w.heap.size + 1 < wr.heap.size := by have := hbr.size; omega
        have z5 : w.heap.size + 1 + 1 < wr.heap.size := by have := hbr.size; omega
        go_wp2
        refine bodyPost_ret (v := .agg #[.int .i64 0, .bool false, .int .i64 s.Else, .string ⟨#[]⟩]) (by simp [results, Try.results37, go_sem, *]) rfl ?_
        exact ⟨by rw [e1.out]; rfl, by repeat (first | (with_reducible exact Below.refl _ _) | (with_reducible exact hbw) | (with_reducible refine below_al ?_ _) | (with_reducible refine below_dr ?_ _) | ((with_reducible refine Below.setCell ?_ ?_ _); rotate_left; (next => first | (simp; done) | (simp; omega) | omega)))⟩

end Go.Proofs.Ytfefmblinceneaa.M
