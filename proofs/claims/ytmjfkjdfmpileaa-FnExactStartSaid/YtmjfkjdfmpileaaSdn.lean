/- Contracts: the reference's copies of actions and webs, its DropNode. -/
import Derived.Test.YtmjfkjdfmpileaaDrp
import Derived.Test.YtmjfkjdfmpileaaSWeb
set_option linter.unusedVariables false
set_option linter.unusedSimpArgs false
attribute [local go_sem ↓] Go.wp_at_zero Go.wp_at_succ
namespace Go.Proofs.Ytmjfkjdfmpileaa.M
open Go.RowKit
theorem Step.lies {tC l0 : Nat} {W0 W : World} (x : Step) {v0 v2 : Value} (h0 : Lie l0 W0 (strsT 9 x.Asks) v0) (hb : Below W0.heap.size W0 W) (h2 : Lie W0.heap.size W (CasesT tC x.Cases) v2) (hl : l0 ≤ W0.heap.size) :
    Lies l0 W (Step.c tC x) [v0, .int .i64 x.On, v2, .int .i64 x.Else, .int .i64 x.Fall, .bool x.End, .bool x.Bad, .string x.Give] := by
  obtain ⟨F0, o0, n0, l0'⟩ := h0
  obtain ⟨F2, o2, n2, l2⟩ := h2
  have u0 := o0.lt
  exact ⟨F0 ++ F2, Step.omk x (o0.below hb) o2, nod2 n0 n2 (fun a ha hb => by have := u0 a ha; have := l2 a hb; omega), mem2 l0' (fun j hj => Nat.le_trans hl (l2 j hj))⟩
theorem Lie.empty (w : World) (e sz : Nat) : Lie w.heap.size (w.alloc (.cells #[] e)) (.l e sz 0 []) (.slice (some ⟨w.heap.size, 0, none⟩) 0 0) :=
  ⟨[w.heap.size], own_empty w e sz, by simp, by simp⟩
theorem Node.lies_of {tS tC lo : Nat} {w : World} {x : Node} {v2 : Value} (h : Lies lo w (Action.c tS tC x.Action) [.int .i64 x.Action.Cost, v2]) : Lies lo w (Node.c tS tC x) [.string x.Name, .int .i64 x.Action.Cost, v2] := by
  obtain ⟨F, o1, n1, l1⟩ := h
  obtain ⟨v2', F2, he, o2, rfl⟩ := Action.oopen o1
  simp at he
  subst he
  exact ⟨F, Node.omk x o2, n1, l1⟩
theorem rep_cells {w : World} {e sz n c : Nat} {A : Option Addr} {cells : List T} (h : rep w (.l e sz n cells) (.slice A n c)) : ∃ us, reps w cells us ∧ us.length = n * sz ∧ (0 < n → ∃ ad, A = some ad ∧ ∀ j u, us[j]? = some u → w.cell? (ad.add j) = some u) := by
  simp only [rep] at h
  obtain ⟨h0, h1, A', c', vs, he, hc, hr, hcl⟩ := h
  cases he
  exact ⟨vs, hr, by rw [reps_length hr, h0], hcl⟩
theorem rep_none {w : World} {e sz n c : Nat} {cells : List T} (h : rep w (.l e sz n cells) (.slice none n c)) : n = 0 := by
  simp only [rep] at h
  obtain ⟨h0, h1, A', c', vs, he, hc, hr, hcl⟩ := h
  cases he
  rcases Nat.eq_zero_or_pos n with h | h
  · exact h
  · obtain ⟨_, h, _⟩ := hcl h; cases h
theorem Lie.empty1 (w : World) (o : Obj) (e sz : Nat) : Lie (w.heap.size + 1) ((w.alloc o).alloc (.cells #[] e)) (.l e sz 0 []) (.slice (some ⟨w.heap.size + 1, 0, none⟩) 0 0) := by
  simpa using Lie.empty (w.alloc o) e sz
theorem Lie.emptyS (w : World) (p : Addr) (u : Value) (e sz : Nat) : Lie w.heap.size ((w.setCell p u).alloc (.cells #[] e)) (.l e sz 0 []) (.slice (some ⟨w.heap.size, 0, none⟩) 0 0) := by
  simpa using Lie.empty (w.setCell p u) e sz
theorem src_cells {wr w : World} {n : Nat} {A : Option Addr} {us : List Value} (h : 0 < n → ∃ ad, A = some ad ∧ ∀ j u, us[j]? = some u → wr.cell? (ad.add j) = some u) (hb : Below wr.heap.size wr w) : 0 < n → ∃ ad, A = some ad ∧ ∀ j u, us[j]? = some u → w.cell? (ad.add j) = some u :=
  fun hn => by obtain ⟨ad, h1, h2⟩ := h hn; exact ⟨ad, h1, fun j u hj => cell_below hb (h2 j u hj)⟩
theorem StepsT_snoc {a b : Nat} (xs : List Step) (x : Step) : StepsT a b (xs ++ [x]) = .l a 8 (xs.length + 1) (xs.flatMap (Step.c b) ++ Step.c b x) := by
  unfold StepsT tl; rw [List.length_append, List.flatMap_append]; simp
set_option maxRecDepth 100000 in
set_option maxHeartbeats 4000000 in
theorem l1Copy_calls {tS tC : Nat} (x : Action) (w : World) {vs : List Value} (h : reps w (x.c tS tC) vs) (hn : x.Steps.length ≤ 1000000) (hb : ∀ s ∈ x.Steps, s.Bd) :
    Calls Try.prog 46 #[.agg vs.toArray] w (MadeA w (x.c 108 112)) := by
  obtain ⟨v1, rfl, h1⟩ := Action.ropen h
  obtain ⟨A, c, rfl, _, _⟩ := rep_len h1
  replace h1 := Asd.mk h1
  replace hb := Asd.mk hb
  clear h
  go_enter Try.func46, Try.ntmps46
  go_wp2
  obtain ⟨W, hW⟩ : ∃ W : World, W = (w.alloc (.cells #[.int .i64 x.Cost, .slice A x.Steps.length c] 44)).alloc (.cells #[.int .i64 0, .slice none 0 0] 44) := ⟨_, rfl⟩
  rw [← hW]
  have sW : W.heap.size = w.heap.size + 1 + 1 := by rw [hW]; simp
  have HW := Asd.mk (show Below w.heap.size w W by rw [hW]; exact below_al (below_al (Below.refl _ _) _) _)
  have c0 : W.cell? ⟨w.heap.size, 1, none⟩ = some (.slice A x.Steps.length c) := by rw [hW]; go_simp
  have c1 : W.cell? ⟨w.heap.size + 1, 0, none⟩ = some (.int .i64 0) := by rw [hW]; go_simp
  have c2 : W.cell? ⟨w.heap.size + 1, 1, none⟩ = some (.slice none 0 0) := by rw [hW]; go_simp
  have c3 : ∀ o, W.frozen? ⟨w.heap.size + 1, o, none⟩ = false := by intro o; rw [hW]; go_simp
  clear hW
  replace c0 := Asd.mk c0
  replace c1 := Asd.mk c1
  replace c2 := Asd.mk c2
  replace c3 := Asd.mk c3
  go_loopw [4] (fun i wr => ∃ (k : Nat) (v : Value), k ≤ x.Steps.length ∧ i = .int .i64 k ∧ wr.cell? ⟨w.heap.size + 1 + 1, 1, none⟩ = some v ∧ wr.cell? ⟨w.heap.size + 1 + 1, 0, none⟩ = some (.int .i64 x.Cost) ∧ (∀ o, wr.frozen? ⟨w.heap.size + 1 + 1, o, none⟩ = false) ∧ Lie (w.heap.size + 1 + 1 + 1) wr (StepsT 108 112 (tkTo x.Steps k)) v ∧ Below W.heap.size W wr ∧ w.heap.size + 1 + 1 < wr.heap.size) (fun i _ => x.Steps.length - (intOf i).toNat)
  case atStart => exact ⟨0, .slice none 0 0, by omega, rfl, by rw [← sW]; go_simp, by rw [← sW]; go_simp, fun o => by rw [← sW]; go_simp, Lie.nil _ _ _ _, by repeat (first | (with_reducible exact Below.refl _ _) | (with_reducible exact Below.refl _ _) | (with_reducible refine below_al ?_ _) | (with_reducible refine below_dr ?_ _) | (with_reducible refine below_d1 ?_) | ((with_reducible refine Below.setCell ?_ ?_ _); rotate_left; (next => first | (simp; done) | (simp; omega) | omega))), by simp; omega⟩
  case round =>
    obtain ⟨k, v, hk, rfl, b1, b0, f0, hL, hbr, hsz⟩ := hrel
    have d0 := (hbr.cell (p := ⟨w.heap.size, 1, none⟩) (by simp; omega)).trans c0.out
    have s0 : w.heap.size < wr.heap.size := by omega
    have s1 : w.heap.size + 1 < wr.heap.size := by omega
    by_cases hlt : k < x.Steps.length
    · obtain ⟨ad, c', v0, v2, he, k0, k1, k2, k3, k4, k5, k6, k7, g0, g2, hr⟩ := Step.elem (h1.out.below (below_st HW.out hbr)) hlt
      cases he
      clear hr
      obtain ⟨C0, d0', rfl, _, _⟩ := rep_len g0
      obtain ⟨C2, d2', rfl, _, _⟩ := rep_len g2
      obtain ⟨us0, r0, l0, p0⟩ := rep_cells g0
      obtain ⟨us2, r2, l2, p2⟩ := rep_cells g2
      obtain ⟨R, d, rfl, hRd, _⟩ := hL.slice
      have hbd := hb.out _ (List.getElem_mem hlt)
      have hl1 := hbd.1
      have hl2 := hbd.2
      clear g0 g2 hbd
      replace r0 := Asd.mk r0
      replace r2 := Asd.mk r2
      replace p0 := Asd.mk p0
      replace p2 := Asd.mk p2
      replace hL := Asd.mk hL
      replace hbr := Asd.mk hbr
      replace l0 := Asd.mk l0
      replace l2 := Asd.mk l2
      go_wp2_with (at_builtin; refine appE rfl rfl Try.underlying56 info_str rfl (by decide) rfl (by simp) (Lie.empty1 wr _ _ _) (Below.refl _ _) (c := d0') rfl (src_cells p0.out (by repeat (first | (with_reducible exact Below.refl _ _) | (with_reducible exact Below.refl _ _) | (with_reducible refine below_al ?_ _) | (with_reducible refine below_dr ?_ _) | (with_reducible refine below_d1 ?_) | ((with_reducible refine Below.setCell ?_ ?_ _); rotate_left; (next => first | (simp; done) | (simp; omega) | omega))))) l0.out (Lies.flat r0.out (strC_flat _) _ (by repeat (first | (with_reducible exact Below.refl _ _) | (with_reducible exact Below.refl _ _) | (with_reducible refine below_al ?_ _) | (with_reducible refine below_dr ?_ _) | (with_reducible refine below_d1 ?_) | ((with_reducible refine Below.setCell ?_ ?_ _); rotate_left; (next => first | (simp; done) | (simp; omega) | omega))))) (by simp [maxLen]; omega) (by omega) ?_)
      intro v5 w5 hL5 hF5
      obtain ⟨E0, e0, rfl, _, _⟩ := hL5.slice
      have hcx := fun b o (h : b < wr.heap.size + 1) => hF5.cell (b := b) (o := o) (by simp; omega) (.inl h)
      have hfx := fun b o (h : b < wr.heap.size + 1) => hF5.frozen (b := b) (o := o) (by simp; omega) (.inl h)
      have hb5 := Asd.mk (Far.trans (B := wr.heap.size) (w := wr) (by repeat (first | (with_reducible exact Below.refl _ _) | (with_reducible exact Below.refl _ _) | (with_reducible refine below_al ?_ _) | (with_reducible refine below_dr ?_ _) | (with_reducible refine below_d1 ?_) | ((with_reducible refine Below.setCell ?_ ?_ _); rotate_left; (next => first | (simp; done) | (simp; omega) | omega)))) hF5 (by omega) (by simp; omega))
      have z5 : wr.heap.size + 1 < w5.heap.size := by have := hF5.size; simp at this; omega
      have z5' : wr.heap.size < w5.heap.size := by omega
      replace hL5 := Asd.mk hL5
      clear hF5
      go_wp2_with (at_builtin; refine appE rfl rfl Try.underlying106 info_Case rfl (by decide) rfl (by simp) (Lie.emptyS w5 _ _ _ _) (Below.refl _ _) (c := d2') rfl (src_cells p2.out (by repeat (first | (with_reducible exact Below.refl _ _) | (with_reducible exact hb5.out) | (with_reducible refine below_al ?_ _) | (with_reducible refine below_dr ?_ _) | (with_reducible refine below_d1 ?_) | ((with_reducible refine Below.setCell ?_ ?_ _); rotate_left; (next => first | (simp; done) | (simp; omega) | omega))))) l2.out (Lies.flat r2.out (Case.flat _) _ (by repeat (first | (with_reducible exact Below.refl _ _) | (with_reducible exact hb5.out) | (with_reducible refine below_al ?_ _) | (with_reducible refine below_dr ?_ _) | (with_reducible refine below_d1 ?_) | ((with_reducible refine Below.setCell ?_ ?_ _); rotate_left; (next => first | (simp; done) | (simp; omega) | omega))))) (by simp [maxLen]; omega) (by omega) ?_)
      intro v6 w6 hL6 hF6
      obtain ⟨E2, e2, rfl, _, _⟩ := hL6.slice
      have hcx6 := fun b o (h : b < w5.heap.size) => hF6.cell (b := b) (o := o) (by simp; omega) (.inl h)
      have hfx6 := fun b o (h : b < w5.heap.size) => hF6.frozen (b := b) (o := o) (by simp; omega) (.inl h)
      have hb6 := Asd.mk (Far.trans (B := wr.heap.size) (w := wr) (by repeat (first | (with_reducible exact Below.refl _ _) | (with_reducible exact hb5.out) | (with_reducible refine below_al ?_ _) | (with_reducible refine below_dr ?_ _) | (with_reducible refine below_d1 ?_) | ((with_reducible refine Below.setCell ?_ ?_ _); rotate_left; (next => first | (simp; done) | (simp; omega) | omega)))) hF6 (by omega) (by simp; omega))
      have z6 : wr.heap.size < w6.heap.size := by have := hF6.size; simp at this; omega
      have hS := Asd.mk (Step.lies x.Steps[k] (hL5.out.set (p := ⟨wr.heap.size, 0, none⟩) (by simp) (.slice E0 x.Steps[k].Asks.length e0)) (W := w6) (Far.trans (below_al (Below.refl _ (w5.setCell ⟨wr.heap.size, 0, none⟩ (.slice E0 x.Steps[k].Asks.length e0))) _) hF6 (by simp) (by simp)) (by simpa [CasesT, tl] using hL6) (by simp; omega))
      have z7 : w5.heap.size + 1 ≤ w6.heap.size := by have := hF6.size; simp at this; omega
      have y1 : w.heap.size + 1 + 1 < w5.heap.size := by omega
      have y2 : w.heap.size + 1 + 1 < w6.heap.size := by omega
      have y3 : w.heap.size + 1 + 1 < wr.heap.size + 1 := by omega
      clear hF6 hL6
      have hlen : (tkTo x.Steps k).length ≤ k := tkTo_len _ _
      have E2_ := Asd.mk (tkTo_succ hlt)
      go_wp2_with (at_builtin; refine appL rfl rfl Try.underlying42 info_Step rfl (by decide) rfl (lo := w.heap.size + 1 + 1 + 1) (wr := wr) (by omega) hL.out (by repeat (first | (with_reducible exact Below.refl _ _) | (with_reducible exact hb6.out) | (with_reducible refine below_al ?_ _) | (with_reducible refine below_dr ?_ _) | (with_reducible refine below_d1 ?_) | ((with_reducible refine Below.setCell ?_ ?_ _); rotate_left; (next => first | (simp; done) | (simp; omega) | omega)))) rfl (one_cells (heap_new_set _ _ _ _)) (by simp) (((hS.out.set (p := ⟨wr.heap.size, 2, none⟩) (by simp) _).mono (by omega)).below (below_al (Below.refl _ _) _)) (by simp [maxLen]; omega) (by omega) ?_)
      intro v7 w7 hL7 hF7
      obtain ⟨R7, d7, rfl, _, _⟩ := hL7.slice
      have hb7 := Asd.mk (Far.trans (B := w.heap.size + 1 + 1) (w := wr) (Below.mono (show Below wr.heap.size wr _ from by repeat (first | (with_reducible exact Below.refl _ _) | (with_reducible exact hb6.out) | (with_reducible refine below_al ?_ _) | (with_reducible refine below_dr ?_ _) | (with_reducible refine below_d1 ?_) | ((with_reducible refine Below.setCell ?_ ?_ _); rotate_left; (next => first | (simp; done) | (simp; omega) | omega)))) (by omega)) hF7 (by omega) (by simp; omega))
      have b1' := (hF7.cell (b := w.heap.size + 1 + 1) (o := 1) (by simp; omega) (.inl (by omega))).trans (by go_simp : _ = some (.slice R (tkTo x.Steps k).length d))
      have b0' := (hF7.cell (b := w.heap.size + 1 + 1) (o := 0) (by simp; omega) (.inl (by omega))).trans (by go_simp : _ = some (.int .i64 x.Cost))
      have f0' : ∀ o, w7.frozen? ⟨w.heap.size + 1 + 1, o, none⟩ = false := fun o => (hF7.frozen (b := w.heap.size + 1 + 1) (o := o) (by simp; omega) (.inl (by omega))).trans (((show Below wr.heap.size wr _ from by repeat (first | (with_reducible exact Below.refl _ _) | (with_reducible exact hb6.out) | (with_reducible refine below_al ?_ _) | (with_reducible refine below_dr ?_ _) | (with_reducible refine below_d1 ?_) | ((with_reducible refine Below.setCell ?_ ?_ _); rotate_left; (next => first | (simp; done) | (simp; omega) | omega)))).frozen (p := ⟨w.heap.size + 1 + 1, o, none⟩) (by simp; omega)).trans (f0 o))
      have z8 := hF7.size
      replace hL7 := Asd.mk hL7
      clear hF7 hcx hfx hcx6 hfx6
      go_wp2
      go_roundw
      case rel => exact ⟨k + 1, .slice R7 ((tkTo x.Steps k).length + 1) d7, by omega, by go_num, by go_simp, by go_simp, fun o => by go_simp, by rw [E2_.out, StepsT_snoc]; exact hL7.out.set (by simp) _, by have hq := Asd.mk (show Below W.heap.size W w7 from hbr.out.trans (by rw [sW]; exact hb7.out)); exact (by repeat (first | (with_reducible exact Below.refl _ _) | (with_reducible exact hq.out) | (with_reducible refine below_al ?_ _) | (with_reducible refine below_dr ?_ _) | (with_reducible refine below_d1 ?_) | ((with_reducible refine Below.setCell ?_ ?_ _); rotate_left; (next => first | (simp; done) | (simp; omega) | omega)))), by simp at z8; simp; omega⟩
      case measure => simp [intOf]; omega
    · obtain rfl : k = x.Steps.length := by omega
      have E2_ := Asd.mk (tkTo_end x.Steps)
      obtain ⟨R, d, rfl, hRd, _⟩ := hL.slice
      have c1' := (hbr.cell (p := ⟨w.heap.size + 1, 0, none⟩) (by simp; omega)).trans c1.out
      have c2' := (hbr.cell (p := ⟨w.heap.size + 1, 1, none⟩) (by simp; omega)).trans c2.out
      have c3' : ∀ o, wr.frozen? ⟨w.heap.size + 1, o, none⟩ = false := fun o => (hbr.frozen (p := ⟨w.heap.size + 1, o, none⟩) (by simp; omega)).trans (c3.out o)
      replace hL := Asd.mk hL
      replace hbr := Asd.mk hbr
      go_wp2
      refine bodyPost_ret (v := .agg #[.int .i64 x.Cost, .slice R (tkTo x.Steps x.Steps.length).length d]) (by simp [results, Try.results46, go_sem, *]) rfl ?_
      have hq := Asd.mk (below_st HW.out hbr.out)
      have hL' := (hL.out.set (p := ⟨w.heap.size + 1, 0, none⟩) (by simp) (.int .i64 x.Cost)).set (p := ⟨w.heap.size + 1, 1, none⟩) (by simp) (.slice R (tkTo x.Steps x.Steps.length).length d)
      rw [E2_.out] at hL' ⊢
      obtain ⟨F, o1, n1, l1⟩ := hL'
      exact ⟨_, rfl, ⟨F, Action.omk x o1, n1, fun k hk => by have := l1 k hk; omega⟩, by repeat (first | (with_reducible exact Below.refl _ _) | (with_reducible exact hq.out) | (with_reducible refine below_al ?_ _) | (with_reducible refine below_dr ?_ _) | (with_reducible refine below_d1 ?_) | ((with_reducible refine Below.setCell ?_ ?_ _); rotate_left; (next => first | (simp; done) | (simp; omega) | omega)))⟩
end Go.Proofs.Ytmjfkjdfmpileaa.M
