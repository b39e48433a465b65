/- Contracts: the laws' own marks. -/
import Derived.Test.YtmjfkjdfmpileaaMkA
import Derived.Test.YtmjfkjdfmpileaaIv
import Derived.Deep.RegionHeld3
set_option linter.unusedVariables false
set_option linter.unusedSimpArgs false
namespace Go.Proofs.Ytmjfkjdfmpileaa.M
open Go.RowKit

set_option maxRecDepth 100000 in
set_option maxHeartbeats 4000000 in
theorem markNodeS_calls (xs : List Node) (v : Value) (F : List Nat) (k : Nat) (n : Int) (w : World) (hn : n = k) (h : own w (NodesT 46 108 112 xs) v F) (hd : F.Nodup) (h0 : 1 ≤ k) (hk : k + cnt (NodesT 46 108 112 xs) ≤ 1000000000) :
    Calls Try.prog 42 #[v, .int .i64 n] w (MrkP (NodesT 46 108 112 xs) v F k w) := by
  subst hn
  obtain ⟨A, c, rfl, _, _⟩ := own_slice h
  have hk2 : k + cnts (xs.flatMap (Node.c 108 112)) ≤ 1000000000 := hk
  have hS := Asd.mk (MS.start (k := k) (cells := (xs.flatMap (Node.c 108 112))) h hd)
  have hlen := Asd.mk (show (xs.flatMap (Node.c 108 112)).length = xs.length * 3 from length_flatMap (Node.c 108 112) 3 (fun _ => rfl) xs)
  clear h hk
  go_enter Try.func42, Try.ntmps42
  go_wp2
  go_loopw [1, 5] (fun kk i wr => ∃ j : Nat, j ≤ xs.length ∧ i = .int .i64 j ∧ kk = .int .i64 ((kTo (xs.flatMap (Node.c 108 112)) (j * 3) k : Nat) : Int) ∧ MS (xs.flatMap (Node.c 108 112)) 46 3 xs.length (.slice A xs.length c) F w k (j * 3) wr) (fun _ i _ => xs.length - (intOf i).toNat)
  case atStart => exact ⟨0, by omega, rfl, by rw [Nat.zero_mul, kTo_zero], by simpa using hS.out⟩
  case round =>
    obtain ⟨j, hj, rfl, rfl, M0⟩ := hrel
    by_cases hlt : j < xs.length
    · obtain ⟨g, rfl⟩ := M0.form (by omega)
      have hg0 : g < wr.heap.size := (M0.at).elim id (fun h => by have := hlen.out; omega)
      obtain ⟨l0, e0⟩ : ∃ h : j * 3 < (xs.flatMap (Node.c 108 112)).length, (xs.flatMap (Node.c 108 112))[j * 3] = .s xs[j].Name := fm_at (enc := (Node.c 108 112)) (sz := 3) (q := 0) (fun _ => rfl) hlt (by omega) rfl
      replace e0 := Asd.mk e0
      obtain ⟨u0, p0, f0⟩ := M0.cell l0
      obtain ⟨l1, e1⟩ : ∃ h : j * 3 + 1 < (xs.flatMap (Node.c 108 112)).length, (xs.flatMap (Node.c 108 112))[j * 3 + 1] = .i .i64 xs[j].Action.Cost := fm_at (enc := (Node.c 108 112)) (sz := 3) (q := 1) (fun _ => rfl) hlt (by omega) rfl
      replace e1 := Asd.mk e1
      obtain ⟨u1, p1, f1⟩ := M0.cell l1
      obtain ⟨l2, e2⟩ : ∃ h : j * 3 + 2 < (xs.flatMap (Node.c 108 112)).length, (xs.flatMap (Node.c 108 112))[j * 3 + 2] = StepsT 108 112 xs[j].Action.Steps := fm_at (enc := (Node.c 108 112)) (sz := 3) (q := 2) (fun _ => rfl) hlt (by omega) rfl
      replace e2 := Asd.mk e2
      obtain ⟨u2, p2, f2⟩ := M0.cell l2
      obtain ⟨K0, t0⟩ : ∃ K, kTo (xs.flatMap (Node.c 108 112)) (j * 3) k = K := ⟨_, rfl⟩
      have hKge : k ≤ K0 := by rw [← t0]; exact kTo_ge _ _ _
      have t1 : kTo (xs.flatMap (Node.c 108 112)) (j * 3 + 1) k = K0 + 1 := by rw [show j * 3 + 1 = (j * 3) + 1 from rfl, kTo_succ k l0, e0.out, t0]; rfl
      have t2 : kTo (xs.flatMap (Node.c 108 112)) (j * 3 + 2) k = K0 + 1 + 1 := by rw [show j * 3 + 2 = (j * 3 + 1) + 1 from rfl, kTo_succ k l1, e1.out, t1]; rfl
      obtain ⟨K1, s1⟩ : ∃ K, K0 + 1 + 1 + cnt (StepsT 108 112 xs[j].Action.Steps) = K := ⟨_, rfl⟩
      have t3 : kTo (xs.flatMap (Node.c 108 112)) (j * 3 + 3) k = K1 := by rw [show j * 3 + 3 = (j * 3 + 2) + 1 from rfl, kTo_succ k l2, e2.out, t2]; exact s1
      have z1 : K0 + 1 + 1 ≤ K1 := by omega
      replace s1 := Asd.mk s1
      have hE : K1 ≤ 1000000000 := by have := kTo_bd (xs.flatMap (Node.c 108 112)) (j * 3 + 3) k; rw [t3] at this; omega
      rw [t0]
      replace t0 := Asd.mk t0
      replace t1 := Asd.mk t1
      replace t2 := Asd.mk t2
      replace t3 := Asd.mk t3
      replace M0 := Asd.mk M0
      go_wp2_with fail
      refine (markText_callsI (K0) _ _ (by omega) (by omega) (by omega)).mono ?_
      rintro e w0 ⟨rfl, hb0⟩
      have hg1 : g < w0.heap.size := by have := hb0.size; (try simp at this); omega
      have hc0 : ∀ o, w0.cell? ⟨g, o, none⟩ = _ := fun o => hb0.cell (p := ⟨g, o, none⟩) (by first | (simp; done) | (simp; omega) | omega)
      have hf0 : ∀ o, w0.frozen? ⟨g, o, none⟩ = _ := fun o => hb0.frozen (p := ⟨g, o, none⟩) (by first | (simp; done) | (simp; omega) | omega)
      have M1 := Asd.mk ((M0.out.below hb0).store l0 (u := .string (mkB (K0))) (by rw [e0.out, t0.out]; exact own_s _ _))
      clear hb0
      have M2 := Asd.mk (M1.out.store l1 (u := .int .i64 ((K0 : Int) + 1)) (by rw [e1.out, t1.out]; exact own_iN _ _ (by omega)))
      obtain ⟨v2, F2, o2, d2, g2, c2, back2⟩ := M2.out.nested l2
      replace c2 := Asd.mk c2
      obtain rfl : v2 = u2 := Option.some.inj (c2.out.symm.trans (by go_simp))
      clear c2
      rw [e2.out, t2.out] at back2
      rw [e2.out] at o2
      obtain ⟨A2, C2, rfl, _, _⟩ := own_slice (show own _ (StepsT 108 112 xs[j].Action.Steps) v2 F2 from o2)
      replace o2 := Asd.mk o2
      replace back2 := Asd.mk back2
      replace d2 := Asd.mk d2
      have hx2 := markStepS_calls xs[j].Action.Steps _ F2 (K0 + 1 + 1) ((K0 : Int) + 1 + 1) _ (by omega) o2.out d2.out (by omega) (by have := s1.out; omega)
      replace hx2 := Asd.mk hx2
      go_wp2_with fail
      refine hx2.out.mono ?_
      rintro e w2 hM2
      obtain ⟨M3, hc2, hf2⟩ := back2.out _ _ hM2
      have he2 := hM2.1
      rw [s1.out] at he2
      subst he2
      have hg3 : g < w2.heap.size := by have := hM2.2.2.size; (try simp at this); omega
      replace M3 := Asd.mk M3
      clear hM2
      go_wp2
      go_roundw
      case rel => exact ⟨j + 1, by omega, by go_num, by first | (rw [show (j + 1) * 3 = j * 3 + 3 by omega, t3.out]; done) | (rw [show (j + 1) * 3 = j * 3 + 3 by omega, t3.out]; first | rfl | go_num), by rw [show (j + 1) * 3 = j * 3 + 3 by omega]; exact M3.out⟩
      case measure => simp [intOf]; omega
    · obtain rfl : j = xs.length := by omega
      have e1 := Asd.mk (show kTo (xs.flatMap (Node.c 108 112)) (xs.length * 3) k = k + cnt (NodesT 46 108 112 xs) by rw [← hlen.out]; exact kTo_end _ _)
      have M1 := Asd.mk M0.fr
      replace M0 := Asd.mk (MS.fin2 hlen.out.symm M0)
      go_wp2
      go_ret
      exact ⟨by rw [e1.out]; rfl, M0.out, M1.out⟩
set_option maxRecDepth 100000 in
set_option maxHeartbeats 4000000 in
theorem heldNodeS_calls (xs : List Node) (v : Value) (F : List Nat) (k : Nat) (n : Int) (w : World) (hn : n = k) (h : own w (mrk (NodesT 46 108 112 xs) k) v F) (h0 : 1 ≤ k) (hk : k + cnt (NodesT 46 108 112 xs) ≤ 1000000000) :
    Calls Try.prog 43 #[v, .int .i64 n] w fun e w' => e = .returned (.int .i64 ((k + cnt (NodesT 46 108 112 xs) : Nat) : Int)) ∧ Below w.heap.size w w' := by
  subst hn
  replace h : own w (.l 46 3 xs.length (mrks (xs.flatMap (Node.c 108 112)) k)) v F := h
  obtain ⟨A, c, rfl, _, _⟩ := own_slice h
  have hk2 : k + cnts (xs.flatMap (Node.c 108 112)) ≤ 1000000000 := hk
  have hlen := Asd.mk (show (xs.flatMap (Node.c 108 112)).length = xs.length * 3 from length_flatMap (Node.c 108 112) 3 (fun _ => rfl) xs)
  replace h := Asd.mk h
  clear hk
  go_enter Try.func43, Try.ntmps43
  go_wp2
  go_loopw [1, 5] (fun kk i wr => ∃ j : Nat, j ≤ xs.length ∧ i = .int .i64 j ∧ kk = .int .i64 ((kTo (xs.flatMap (Node.c 108 112)) (j * 3) k : Nat) : Int) ∧ Below w.heap.size w wr) (fun _ i _ => xs.length - (intOf i).toNat)
  case atStart => exact ⟨0, by omega, rfl, by rw [Nat.zero_mul, kTo_zero], Below.refl _ _⟩
  case round =>
    obtain ⟨j, hj, rfl, rfl, HB⟩ := hrel
    replace HB := Asd.mk HB
    by_cases hlt : j < xs.length
    · obtain ⟨g, rfl⟩ : ∃ g, A = some ⟨g, 0, none⟩ := by
        obtain ⟨g, c', he, _⟩ := own_form h.out (by omega)
        cases he; exact ⟨g, rfl⟩
      obtain ⟨l0, e0⟩ : ∃ h : j * 3 < (xs.flatMap (Node.c 108 112)).length, (xs.flatMap (Node.c 108 112))[j * 3] = .s xs[j].Name := fm_at (enc := (Node.c 108 112)) (sz := 3) (q := 0) (fun _ => rfl) hlt (by omega) rfl
      replace e0 := Asd.mk e0
      obtain ⟨l1, e1⟩ : ∃ h : j * 3 + 1 < (xs.flatMap (Node.c 108 112)).length, (xs.flatMap (Node.c 108 112))[j * 3 + 1] = .i .i64 xs[j].Action.Cost := fm_at (enc := (Node.c 108 112)) (sz := 3) (q := 1) (fun _ => rfl) hlt (by omega) rfl
      replace e1 := Asd.mk e1
      obtain ⟨l2, e2⟩ : ∃ h : j * 3 + 2 < (xs.flatMap (Node.c 108 112)).length, (xs.flatMap (Node.c 108 112))[j * 3 + 2] = StepsT 108 112 xs[j].Action.Steps := fm_at (enc := (Node.c 108 112)) (sz := 3) (q := 2) (fun _ => rfl) hlt (by omega) rfl
      replace e2 := Asd.mk e2
      obtain ⟨K0, t0⟩ : ∃ K, kTo (xs.flatMap (Node.c 108 112)) (j * 3) k = K := ⟨_, rfl⟩
      have hKge : k ≤ K0 := by rw [← t0]; exact kTo_ge _ _ _
      have t1 : kTo (xs.flatMap (Node.c 108 112)) (j * 3 + 1) k = K0 + 1 := by rw [show j * 3 + 1 = (j * 3) + 1 from rfl, kTo_succ k l0, e0.out, t0]; rfl
      have t2 : kTo (xs.flatMap (Node.c 108 112)) (j * 3 + 2) k = K0 + 1 + 1 := by rw [show j * 3 + 2 = (j * 3 + 1) + 1 from rfl, kTo_succ k l1, e1.out, t1]; rfl
      obtain ⟨K1, s1⟩ : ∃ K, K0 + 1 + 1 + cnt (StepsT 108 112 xs[j].Action.Steps) = K := ⟨_, rfl⟩
      have t3 : kTo (xs.flatMap (Node.c 108 112)) (j * 3 + 3) k = K1 := by rw [show j * 3 + 3 = (j * 3 + 2) + 1 from rfl, kTo_succ k l2, e2.out, t2]; exact s1
      have z1 : K0 + 1 + 1 ≤ K1 := by omega
      replace s1 := Asd.mk s1
      have hE : K1 ≤ 1000000000 := by have := kTo_bd (xs.flatMap (Node.c 108 112)) (j * 3 + 3) k; rw [t3] at this; omega
      rw [t0]
      replace t0 := Asd.mk t0
      replace t1 := Asd.mk t1
      replace t2 := Asd.mk t2
      replace t3 := Asd.mk t3
      obtain ⟨u0, F0, o0, c0⟩ := mrk_cell h.out l0
      rw [e0.out, t0.out] at o0
      obtain rfl : u0 = .string (mkB (K0)) := by
        have h : own w (.s (mkB (K0))) u0 F0 := o0
        simp only [own] at h
        rw [h.1]
      clear o0
      have k0 := Asd.mk (fun (X : World) (hX : Below w.heap.size w X) => cell_below hX c0)
      obtain ⟨u1, F1, o1, c1⟩ := mrk_cell h.out l1
      rw [e1.out, t1.out] at o1
      obtain rfl : u1 = .int .i64 ((K0 : Int) + 1) := by
        have h : own w (.i .i64 ((K0 + 1 : Nat) : Int)) u1 F1 := o1
        simp only [own] at h
        rw [h.1]
        congr 1
      clear o1
      have k1 := Asd.mk (fun (X : World) (hX : Below w.heap.size w X) => cell_below hX c1)
      obtain ⟨u2, F2, o2, c2⟩ := mrk_cell h.out l2
      rw [e2.out, t2.out] at o2
      replace o2 : own w (mrk (StepsT 108 112 xs[j].Action.Steps) (K0 + 1 + 1)) u2 F2 := o2
      obtain ⟨A2, C2, rfl, _, _⟩ : ∃ A c, u2 = .slice A (xs[j].Action.Steps).length c ∧ (xs[j].Action.Steps).length ≤ c ∧ (xs[j].Action.Steps).length ≤ 9223372036854775807 := own_slice o2
      replace o2 := Asd.mk o2
      have k2 := Asd.mk (fun (X : World) (hX : Below w.heap.size w X) => cell_below hX c2)
      clear c0 c1 c2
      have r0 := k0.out _ HB.out
      have r1 := k1.out _ HB.out
      have r2 := k2.out _ HB.out
      have i0 : (0 : Int) ≤ (j : Int) := by omega
      have i1 : (j : Int) < (xs.length : Int) := by omega
      go_wp2
      go_region_held3 (fun X => X.cell? ⟨g, j * 3, none⟩ = some (.string (mkB (K0)))) ((refine k0.out _ ?_; (repeat (first | (with_reducible exact Below.refl _ _) | (with_reducible exact HB.out) | (with_reducible exact hb5.out) | (with_reducible refine below_al ?_ _) | (with_reducible refine below_dr ?_ _) | (with_reducible refine below_d1 ?_) | ((with_reducible refine Below.setCell ?_ ?_ _); rotate_left; (next => first | (simp; done) | (simp; omega) | omega)))); done))
        ((go_at_call 66; refine (markText_callsI (K0) _ _ (by omega) (by omega) (by omega)).mono ?_; rintro e w0 ⟨rfl, hb⟩; have hb5 := Asd.mk (below_st (w := w) (by repeat (first | (with_reducible exact Below.refl _ _) | (with_reducible exact HB.out) | (with_reducible refine below_al ?_ _) | (with_reducible refine below_dr ?_ _) | (with_reducible refine below_d1 ?_) | ((with_reducible refine Below.setCell ?_ ?_ _); rotate_left; (next => first | (simp; done) | (simp; omega) | omega)))) hb); clear hb))
      have HB0 := Asd.mk (show Below w.heap.size w w0 from by repeat (first | (with_reducible exact Below.refl _ _) | (with_reducible exact hb5.out) | (with_reducible refine below_al ?_ _) | (with_reducible refine below_dr ?_ _) | (with_reducible refine below_d1 ?_) | ((with_reducible refine Below.setCell ?_ ?_ _); rotate_left; (next => first | (simp; done) | (simp; omega) | omega))))
      clear hb5
      replace r0 := k0.out _ HB0.out
      replace r1 := k1.out _ HB0.out
      replace r2 := k2.out _ HB0.out
      go_wp2_with fail
      refine (heldStepS_calls xs[j].Action.Steps _ F2 (K0 + 1 + 1) _ _ (by omega) (o2.out.below (by repeat (first | (with_reducible exact Below.refl _ _) | (with_reducible exact HB0.out) | (with_reducible refine below_al ?_ _) | (with_reducible refine below_dr ?_ _) | (with_reducible refine below_d1 ?_) | ((with_reducible refine Below.setCell ?_ ?_ _); rotate_left; (next => first | (simp; done) | (simp; omega) | omega))))) (by omega) (by have := s1.out; omega)).mono ?_
      rintro e w2 ⟨he, hb⟩
      rw [s1.out] at he
      subst he
      have HB2 := Asd.mk (below_st (w := w) (by repeat (first | (with_reducible exact Below.refl _ _) | (with_reducible exact HB0.out) | (with_reducible refine below_al ?_ _) | (with_reducible refine below_dr ?_ _) | (with_reducible refine below_d1 ?_) | ((with_reducible refine Below.setCell ?_ ?_ _); rotate_left; (next => first | (simp; done) | (simp; omega) | omega)))) hb)
      clear hb
      replace r0 := k0.out _ HB2.out
      replace r1 := k1.out _ HB2.out
      replace r2 := k2.out _ HB2.out
      go_wp2
      go_roundw
      case rel => exact ⟨j + 1, by omega, by go_num, by first | (rw [show (j + 1) * 3 = j * 3 + 3 by omega, t3.out]; done) | (rw [show (j + 1) * 3 = j * 3 + 3 by omega, t3.out]; first | rfl | go_num), HB2.out⟩
      case measure => simp [intOf]; omega
    · obtain rfl : j = xs.length := by omega
      have e1 := Asd.mk (show kTo (xs.flatMap (Node.c 108 112)) (xs.length * 3) k = k + cnt (NodesT 46 108 112 xs) by rw [← hlen.out]; exact kTo_end _ _)
      go_wp2
      go_ret
      exact ⟨by rw [e1.out]; rfl, HB.out⟩
set_option maxRecDepth 100000 in
set_option maxHeartbeats 2000000 in
theorem markWeb_calls (x : Web) (lo hi k : Nat) (n : Int) (w : World) (hn : n = k) {vs : List Value} (h : Iv lo hi w (x.c 46 108 112) vs) (h0 : 1 ≤ k) (hk : k + cntl (x.c 46 108 112) ≤ 1000000000) :
    Calls Try.prog 12 #[.agg vs.toArray, .int .i64 n] w (MrkI (x.c 46 108 112) vs lo hi k w) := by
  subst hn
  obtain ⟨v0, rfl⟩ : ∃ v0, vs = [v0] := by
    obtain ⟨F, o, _⟩ := h
    obtain ⟨v0, F0, rfl, _⟩ := Web.oopen o
    exact ⟨v0, rfl⟩
  obtain ⟨F, o, hd, hF⟩ := Iv.one (t := NodesT 46 108 112 x.Nodes) h
  obtain ⟨A, c, rfl, _, _⟩ := own_slice (show own w (NodesT 46 108 112 x.Nodes) v0 F from o)
  have ec := Asd.mk (show cntl (x.c 46 108 112) = cnt (NodesT 46 108 112 x.Nodes) from cntl_one _ _ _ _)
  rw [ec.out] at hk
  have hx := Asd.mk (fun (W : World) (hW : Below w.heap.size w W) => markNodeS_calls x.Nodes _ F k (k : Int) W rfl (o.below hW) hd h0 hk)
  clear h
  have h1 : ¬((k : Int) + (cnt (NodesT 46 108 112 x.Nodes) : Int) < 0) := by omega
  go_enter Try.func12, Try.ntmps12
  go_wp2_with fail
  refine (hx.out _ (below_al (Below.refl _ _) _)).mono ?_
  rintro e w1 ⟨rfl, ⟨F', o', n', s'⟩, m'⟩
  have hf := Asd.mk (m'.far hF)
  have hI := Asd.mk (Iv.mk o' n' (fun b hb => hF b (s' b hb)))
  clear o' n' s' m'
  go_wp2
  go_ret
  refine ⟨by rw [ec.out]; rfl, hI.out, ?_⟩
  have hz := hf.out
  exact ⟨hz.os, hz.tape, hz.output, Nat.le_trans (by simp) hz.size, fun b hb ho => (hz.block b (by simp; omega) ho).trans (heap_alloc_old _ _ hb)⟩
set_option maxRecDepth 100000 in
set_option maxHeartbeats 2000000 in
theorem heldWeb_calls (x : Web) (lo hi k : Nat) (n : Int) (w : World) (hn : n = k) {vs : List Value} (h : Iv lo hi w (mrkl (x.c 46 108 112) k) vs) (h0 : 1 ≤ k) (hk : k + cntl (x.c 46 108 112) ≤ 1000000000) :
    Calls Try.prog 13 #[.agg vs.toArray, .int .i64 n] w fun e w' => e = .returned (.int .i64 ((k + cntl (x.c 46 108 112) : Nat) : Int)) ∧ Below w.heap.size w w' := by
  subst hn
  obtain ⟨v0, rfl⟩ : ∃ v0, vs = [v0] := by
    obtain ⟨F, o, _⟩ := h
    have := owns_length o
    match vs, this with
    | [v0], _ => exact ⟨v0, rfl⟩
  obtain ⟨F, o, hd, hF⟩ := Iv.one (t := mrk (NodesT 46 108 112 x.Nodes) k) h
  obtain ⟨A, c, rfl, _, _⟩ : ∃ A c, v0 = .slice A x.Nodes.length c ∧ x.Nodes.length ≤ c ∧ x.Nodes.length ≤ 9223372036854775807 := own_slice o
  have ec := Asd.mk (show cntl (x.c 46 108 112) = cnt (NodesT 46 108 112 x.Nodes) from cntl_one _ _ _ _)
  rw [ec.out] at hk
  have hx := Asd.mk (fun (W : World) (hW : Below w.heap.size w W) => heldNodeS_calls x.Nodes _ F k (k : Int) W rfl (o.below hW) h0 hk)
  clear h
  have h1 : ¬((k : Int) + (cnt (NodesT 46 108 112 x.Nodes) : Int) < 0) := by omega
  go_enter Try.func13, Try.ntmps13
  go_wp2_with fail
  refine (hx.out _ (below_al (Below.refl _ _) _)).mono ?_
  rintro e w1 ⟨rfl, hb⟩
  obtain ⟨K, hK⟩ : ∃ K, k + cnt (NodesT 46 108 112 x.Nodes) = K := ⟨_, rfl⟩
  rw [hK]
  go_wp2
  go_ret
  exact ⟨by rw [ec.out, hK]; rfl, below_st (below_al (Below.refl _ _) _) hb⟩
end Go.Proofs.Ytmjfkjdfmpileaa.M
