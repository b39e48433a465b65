/- Contracts: the laws' own marks. -/
import Derived.Test.YtmjfkjdfmpileaaMkB
import Derived.Deep.RegionHeld3
set_option linter.unusedVariables false
set_option linter.unusedSimpArgs false
namespace Go.Proofs.Ytmjfkjdfmpileaa.M
open Go.RowKit

set_option maxRecDepth 100000 in
set_option maxHeartbeats 2000000 in
theorem markNode_calls (x : Node) (lo hi k : Nat) (n : Int) (w : World) (hn : n = k) {vs : List Value} (h : Iv lo hi w (x.c 108 112) vs) (h0 : 1 ≤ k) (hk : k + cntl (x.c 108 112) ≤ 1000000000) :
    Calls Try.prog 19 #[.agg vs.toArray, .int .i64 n] w (MrkI (x.c 108 112) vs lo hi k w) := by
  subst hn
  obtain ⟨F, o, hd, hF⟩ := h
  obtain ⟨v2, F2, rfl, p2, hf_⟩ := Node.oopen o
  obtain rfl := hf_.symm
  clear o
  obtain ⟨A2, c2, rfl, _, _⟩ := own_slice p2
  have ec := Asd.mk (show cntl (x.c 108 112) = cnt (StepsT 108 112 x.Action.Steps) + 0 from rfl)
  rw [ec.out] at hk
  obtain ⟨K2, hK2⟩ : ∃ K, k + cnt (StepsT 108 112 x.Action.Steps) = K := ⟨_, rfl⟩
  have z2 : k ≤ K2 := by omega
  have eK := Asd.mk (show k + cntl (x.c 108 112) = K2 by rw [ec.out]; omega)
  have hk2 : K2 ≤ 1000000000 := by omega
  clear hk
  replace hK2 := Asd.mk hK2
  have l2 := p2.lt
  have nn2 := hd
  replace p2 := Asd.mk p2
  replace l2 := Asd.mk l2
  replace nn2 := Asd.mk nn2
  replace hF := Asd.mk hF
  go_enter Try.func19, Try.ntmps19
  go_wp2_with (first | (go_at_call 50; go_in))
  refine (markStepS_calls x.Action.Steps _ F2 (k) (k : Int) _ rfl (p2.out.below (by repeat (first | (with_reducible exact Below.refl _ _) | (with_reducible exact Below.refl _ _) | (with_reducible refine below_al ?_ _) | (with_reducible refine below_dr ?_ _) | (with_reducible refine below_d1 ?_) | ((with_reducible refine Below.setCell ?_ ?_ _); rotate_left; (next => first | (simp; done) | (simp; omega) | omega))))) nn2.out (by omega) (by have := hK2.out; omega)).mono ?_
  rintro e w2 ⟨he, ⟨G2, o2, d2, s2⟩, m2⟩
  rw [hK2.out] at he
  subst he
  have b2_0 : w2.cell? ⟨w.heap.size, 0, none⟩ = some (.string x.Name) := by
    rw [m2.cell (by first | (simp; done) | (simp; omega)) (fun hb => by have := l2.out _ hb; omega)]; first | exact bx_0 | go_simp
  have b2_1 : w2.cell? ⟨w.heap.size, 1, none⟩ = some (.int .i64 x.Action.Cost) := by
    rw [m2.cell (by first | (simp; done) | (simp; omega)) (fun hb => by have := l2.out _ hb; omega)]; first | exact bx_1 | go_simp
  have b2_2 : w2.cell? ⟨w.heap.size, 2, none⟩ = some (.slice A2 (x.Action.Steps).length c2) := by
    rw [m2.cell (by first | (simp; done) | (simp; omega)) (fun hb => by have := l2.out _ hb; omega)]; first | exact bx_2 | go_simp
  have y2 : w.heap.size < w2.heap.size := by have := m2.size; (try simp at this); omega
  have M2 := Asd.mk (MFr.trans (F := F2) (MFr.of_below (show Below w.heap.size w _ from by repeat (first | (with_reducible exact Below.refl _ _) | (with_reducible exact Below.refl _ _) | (with_reducible refine below_al ?_ _) | (with_reducible refine below_dr ?_ _) | (with_reducible refine below_d1 ?_) | ((with_reducible refine Below.setCell ?_ ?_ _); rotate_left; (next => first | (simp; done) | (simp; omega) | omega))))) (m2.mono (fun b hb => by simp [hb])))
  replace o2 := Asd.mk o2
  replace d2 := Asd.mk d2
  replace s2 := Asd.mk s2
  clear m2
  go_wp2_with (first | (go_at_call 50; go_in))
  go_ret
  have z := M2.out
  refine ⟨by rw [eK.out]; try rfl, ⟨G2, ?_, ?_, ?_⟩, ?_⟩
  · show owns _ [.s x.Name, .i .i64 x.Action.Cost, mrk (StepsT 108 112 x.Action.Steps) (k)] _ _
    simp only [owns]
    have hz : ([] ++ ([] ++ (G2 ++ []))) = G2 := by simp
    rw [← hz]
    exact ⟨_, _, [], _, rfl, own_s _ _, ⟨_, _, [], _, rfl, own_i _ _ _, ⟨_, _, G2, _, rfl, o2.out.below (by repeat (first | (with_reducible exact Below.refl _ _) | (with_reducible exact Below.refl _ _) | (with_reducible refine below_al ?_ _) | (with_reducible refine below_dr ?_ _) | (with_reducible refine below_d1 ?_) | ((with_reducible refine Below.setCell ?_ ?_ _); rotate_left; (next => first | (simp; done) | (simp; omega) | omega)))), ⟨rfl, rfl⟩, rfl⟩, rfl⟩, rfl⟩
  · exact d2.out
  · intro b hb
    refine hF.out b ?_
    try simp only [List.mem_append] at hb ⊢
    exact s2.out b hb
  · exact ⟨z.os, z.tape, z.output, z.size, fun b hb ho => z.block b hb (fun hf => by have := hF.out b hf; omega)⟩
end Go.Proofs.Ytmjfkjdfmpileaa.M
