/- Contracts: the laws' own marks. -/
import Derived.Test.YtmjfkjdfmpileaaMkS
import Derived.Deep.RegionHeld3
set_option linter.unusedVariables false
set_option linter.unusedSimpArgs false
namespace Go.Proofs.Ytmjfkjdfmpileaa.M
open Go.RowKit

set_option maxRecDepth 100000 in
set_option maxHeartbeats 4000000 in
theorem markCaseS_calls (xs : List Case) (v : Value) (F : List Nat) (k : Nat) (n : Int) (w : World) (hn : n = k) (h : own w (CasesT 112 xs) v F) (hd : F.Nodup) (h0 : 1 ≤ k) (hk : k + cnt (CasesT 112 xs) ≤ 1000000000) :
    Calls Try.prog 97 #[v, .int .i64 n] w (MrkP (CasesT 112 xs) v F k w) := by
  subst hn
  obtain ⟨A, c, rfl, _, _⟩ := own_slice h
  have hk2 : k + cnts (xs.flatMap Case.c) ≤ 1000000000 := hk
  have hS := Asd.mk (MS.start (k := k) (cells := (xs.flatMap Case.c)) h hd)
  have hlen := Asd.mk (show (xs.flatMap Case.c).length = xs.length * 2 from length_flatMap Case.c 2 (fun _ => rfl) xs)
  clear h hk
  go_enter Try.func97, Try.ntmps97
  go_wp2
  go_loopw [1, 5] (fun kk i wr => ∃ j : Nat, j ≤ xs.length ∧ i = .int .i64 j ∧ kk = .int .i64 ((kTo (xs.flatMap Case.c) (j * 2) k : Nat) : Int) ∧ MS (xs.flatMap Case.c) 112 2 xs.length (.slice A xs.length c) F w k (j * 2) wr) (fun _ i _ => xs.length - (intOf i).toNat)
  case atStart => exact ⟨0, by omega, rfl, by rw [Nat.zero_mul, kTo_zero], by simpa using hS.out⟩
  case round =>
    obtain ⟨j, hj, rfl, rfl, M0⟩ := hrel
    by_cases hlt : j < xs.length
    · obtain ⟨g, rfl⟩ := M0.form (by omega)
      have hg0 : g < wr.heap.size := (M0.at).elim id (fun h => by have := hlen.out; omega)
      obtain ⟨l0, e0⟩ : ∃ h : j * 2 < (xs.flatMap Case.c).length, (xs.flatMap Case.c)[j * 2] = .s xs[j].Text := fm_at (enc := Case.c) (sz := 2) (q := 0) (fun _ => rfl) hlt (by omega) rfl
      replace e0 := Asd.mk e0
      obtain ⟨u0, p0, f0⟩ := M0.cell l0
      obtain ⟨l1, e1⟩ : ∃ h : j * 2 + 1 < (xs.flatMap Case.c).length, (xs.flatMap Case.c)[j * 2 + 1] = .i .i64 xs[j].Goto := fm_at (enc := Case.c) (sz := 2) (q := 1) (fun _ => rfl) hlt (by omega) rfl
      replace e1 := Asd.mk e1
      obtain ⟨u1, p1, f1⟩ := M0.cell l1
      obtain ⟨K0, t0⟩ : ∃ K, kTo (xs.flatMap Case.c) (j * 2) k = K := ⟨_, rfl⟩
      have hKge : k ≤ K0 := by rw [← t0]; exact kTo_ge _ _ _
      have t1 : kTo (xs.flatMap Case.c) (j * 2 + 1) k = K0 + 1 := by rw [show j * 2 + 1 = (j * 2) + 1 from rfl, kTo_succ k l0, e0.out, t0]; rfl
      have t2 : kTo (xs.flatMap Case.c) (j * 2 + 2) k = K0 + 1 + 1 := by rw [show j * 2 + 2 = (j * 2 + 1) + 1 from rfl, kTo_succ k l1, e1.out, t1]; rfl
      have hE : K0 + 1 + 1 ≤ 1000000000 := by have := kTo_bd (xs.flatMap Case.c) (j * 2 + 2) k; rw [t2] at this; omega
      rw [t0]
      replace t0 := Asd.mk t0
      replace t1 := Asd.mk t1
      replace t2 := Asd.mk t2
      replace M0 := Asd.mk M0
      go_wp2_with fail
      refine (markText_callsI (K0) _ _ (by omega) (by omega) (by omega)).mono ?_
      rintro e w0 ⟨rfl, hb0⟩
      have hg1 : g < w0.heap.size := by have := hb0.size; (try simp at this); omega
      have hc0 : ∀ o, w0.cell? ⟨g, o, none⟩ = _ := fun o => hb0.cell (p := ⟨g, o, none⟩) (by first | (simp; done) | (simp; omega) | omega)
      have hf0 : ∀ o, w0.frozen? ⟨g, o, none⟩ = _ := fun o => hb0.frozen (p := ⟨g, o, none⟩) (by first | (simp; done) | (simp; omega) | omega)
      have M1 := Asd.mk ((M0.out.below hb0).store l0 (u := .string (mkB (K0))) (by rw [e0.out, t0.out]; exact own_s _ _))
      clear hb0
      have M2 := Asd.mk (M1.out.store l1 (u := .int .i64 ((K0 : Int) + 1)) (by rw [e1.out, t1.out]; exact own_iN _ _ (by omega)))
      go_wp2
      go_roundw
      case rel => exact ⟨j + 1, by omega, by go_num, by first | (rw [show (j + 1) * 2 = j * 2 + 2 by omega, t2.out]; done) | (rw [show (j + 1) * 2 = j * 2 + 2 by omega, t2.out]; first | rfl | go_num), by rw [show (j + 1) * 2 = j * 2 + 2 by omega]; exact M2.out⟩
      case measure => simp [intOf]; omega
    · obtain rfl : j = xs.length := by omega
      have e1 := Asd.mk (show kTo (xs.flatMap Case.c) (xs.length * 2) k = k + cnt (CasesT 112 xs) by rw [← hlen.out]; exact kTo_end _ _)
      have M1 := Asd.mk M0.fr
      replace M0 := Asd.mk (MS.fin2 hlen.out.symm M0)
      go_wp2
      go_ret
      exact ⟨by rw [e1.out]; rfl, M0.out, M1.out⟩
set_option maxRecDepth 100000 in
set_option maxHeartbeats 4000000 in
theorem heldCaseS_calls (xs : List Case) (v : Value) (F : List Nat) (k : Nat) (n : Int) (w : World) (hn : n = k) (h : own w (mrk (CasesT 112 xs) k) v F) (h0 : 1 ≤ k) (hk : k + cnt (CasesT 112 xs) ≤ 1000000000) :
    Calls Try.prog 98 #[v, .int .i64 n] w fun e w' => e = .returned (.int .i64 ((k + cnt (CasesT 112 xs) : Nat) : Int)) ∧ Below w.heap.size w w' := by
  subst hn
  replace h : own w (.l 112 2 xs.length (mrks (xs.flatMap Case.c) k)) v F := h
  obtain ⟨A, c, rfl, _, _⟩ := own_slice h
  have hk2 : k + cnts (xs.flatMap Case.c) ≤ 1000000000 := hk
  have hlen := Asd.mk (show (xs.flatMap Case.c).length = xs.length * 2 from length_flatMap Case.c 2 (fun _ => rfl) xs)
  replace h := Asd.mk h
  clear hk
  go_enter Try.func98, Try.ntmps98
  go_wp2
  go_loopw [1, 5] (fun kk i wr => ∃ j : Nat, j ≤ xs.length ∧ i = .int .i64 j ∧ kk = .int .i64 ((kTo (xs.flatMap Case.c) (j * 2) k : Nat) : Int) ∧ Below w.heap.size w wr) (fun _ i _ => xs.length - (intOf i).toNat)
  case atStart => exact ⟨0, by omega, rfl, by rw [Nat.zero_mul, kTo_zero], Below.refl _ _⟩
  case round =>
    obtain ⟨j, hj, rfl, rfl, HB⟩ := hrel
    replace HB := Asd.mk HB
    by_cases hlt : j < xs.length
    · obtain ⟨g, rfl⟩ : ∃ g, A = some ⟨g, 0, none⟩ := by
        obtain ⟨g, c', he, _⟩ := own_form h.out (by omega)
        cases he; exact ⟨g, rfl⟩
      obtain ⟨l0, e0⟩ : ∃ h : j * 2 < (xs.flatMap Case.c).length, (xs.flatMap Case.c)[j * 2] = .s xs[j].Text := fm_at (enc := Case.c) (sz := 2) (q := 0) (fun _ => rfl) hlt (by omega) rfl
      replace e0 := Asd.mk e0
      obtain ⟨l1, e1⟩ : ∃ h : j * 2 + 1 < (xs.flatMap Case.c).length, (xs.flatMap Case.c)[j * 2 + 1] = .i .i64 xs[j].Goto := fm_at (enc := Case.c) (sz := 2) (q := 1) (fun _ => rfl) hlt (by omega) rfl
      replace e1 := Asd.mk e1
      obtain ⟨K0, t0⟩ : ∃ K, kTo (xs.flatMap Case.c) (j * 2) k = K := ⟨_, rfl⟩
      have hKge : k ≤ K0 := by rw [← t0]; exact kTo_ge _ _ _
      have t1 : kTo (xs.flatMap Case.c) (j * 2 + 1) k = K0 + 1 := by rw [show j * 2 + 1 = (j * 2) + 1 from rfl, kTo_succ k l0, e0.out, t0]; rfl
      have t2 : kTo (xs.flatMap Case.c) (j * 2 + 2) k = K0 + 1 + 1 := by rw [show j * 2 + 2 = (j * 2 + 1) + 1 from rfl, kTo_succ k l1, e1.out, t1]; rfl
      have hE : K0 + 1 + 1 ≤ 1000000000 := by have := kTo_bd (xs.flatMap Case.c) (j * 2 + 2) k; rw [t2] at this; omega
      rw [t0]
      replace t0 := Asd.mk t0
      replace t1 := Asd.mk t1
      replace t2 := Asd.mk t2
      obtain ⟨u0, F0, o0, c0⟩ := mrk_cell h.out l0
      rw [e0.out, t0.out] at o0
      obtain rfl : u0 = .string (mkB (K0)) := by
        have h : own w (.s (mkB (K0))) u0 F0 := o0
        simp only [own] at h
        rw [h.1]
      clear o0
      have k0 := Asd.mk (fun (X : World) (hX : Below w.heap.size w X) => cell_below hX c0)
      obtain ⟨u1, F1, o1, c1⟩ := mrk_cell h.out l1
      rw [e1.out, t1.out] at o1
      obtain rfl : u1 = .int .i64 ((K0 : Int) + 1) := by
        have h : own w (.i .i64 ((K0 + 1 : Nat) : Int)) u1 F1 := o1
        simp only [own] at h
        rw [h.1]
        congr 1
      clear o1
      have k1 := Asd.mk (fun (X : World) (hX : Below w.heap.size w X) => cell_below hX c1)
      clear c0 c1
      have r0 := k0.out _ HB.out
      have r1 := k1.out _ HB.out
      have i0 : (0 : Int) ≤ (j : Int) := by omega
      have i1 : (j : Int) < (xs.length : Int) := by omega
      go_wp2
      go_region_held3 (fun X => X.cell? ⟨g, j * 2, none⟩ = some (.string (mkB (K0)))) ((refine k0.out _ ?_; (repeat (first | (with_reducible exact Below.refl _ _) | (with_reducible exact HB.out) | (with_reducible exact hb5.out) | (with_reducible refine below_al ?_ _) | (with_reducible refine below_dr ?_ _) | (with_reducible refine below_d1 ?_) | ((with_reducible refine Below.setCell ?_ ?_ _); rotate_left; (next => first | (simp; done) | (simp; omega) | omega)))); done))
        ((go_at_call 66; refine (markText_callsI (K0) _ _ (by omega) (by omega) (by omega)).mono ?_; rintro e w0 ⟨rfl, hb⟩; have hb5 := Asd.mk (below_st (w := w) (by repeat (first | (with_reducible exact Below.refl _ _) | (with_reducible exact HB.out) | (with_reducible refine below_al ?_ _) | (with_reducible refine below_dr ?_ _) | (with_reducible refine below_d1 ?_) | ((with_reducible refine Below.setCell ?_ ?_ _); rotate_left; (next => first | (simp; done) | (simp; omega) | omega)))) hb); clear hb))
      have HB0 := Asd.mk (show Below w.heap.size w w0 from by repeat (first | (with_reducible exact Below.refl _ _) | (with_reducible exact hb5.out) | (with_reducible refine below_al ?_ _) | (with_reducible refine below_dr ?_ _) | (with_reducible refine below_d1 ?_) | ((with_reducible refine Below.setCell ?_ ?_ _); rotate_left; (next => first | (simp; done) | (simp; omega) | omega))))
      clear hb5
      replace r0 := k0.out _ HB0.out
      replace r1 := k1.out _ HB0.out
      go_wp2
      go_roundw
      case rel => exact ⟨j + 1, by omega, by go_num, by first | (rw [show (j + 1) * 2 = j * 2 + 2 by omega, t2.out]; done) | (rw [show (j + 1) * 2 = j * 2 + 2 by omega, t2.out]; first | rfl | go_num), HB0.out⟩
      case measure => simp [intOf]; omega
    · obtain rfl : j = xs.length := by omega
      have e1 := Asd.mk (show kTo (xs.flatMap Case.c) (xs.length * 2) k = k + cnt (CasesT 112 xs) by rw [← hlen.out]; exact kTo_end _ _)
      go_wp2
      go_ret
      exact ⟨by rw [e1.out]; rfl, HB.out⟩
set_option maxRecDepth 100000 in
set_option maxHeartbeats 4000000 in
theorem markStepS_calls (xs : List Step) (v : Value) (F : List Nat) (k : Nat) (n : Int) (w : World) (hn : n = k) (h : own w (StepsT 108 112 xs) v F) (hd : F.Nodup) (h0 : 1 ≤ k) (hk : k + cnt (StepsT 108 112 xs) ≤ 1000000000) :
    Calls Try.prog 77 #[v, .int .i64 n] w (MrkP (StepsT 108 112 xs) v F k w) := by
  subst hn
  obtain ⟨A, c, rfl, _, _⟩ := own_slice h
  have hk2 : k + cnts (xs.flatMap (Step.c 112)) ≤ 1000000000 := hk
  have hS := Asd.mk (MS.start (k := k) (cells := (xs.flatMap (Step.c 112))) h hd)
  have hlen := Asd.mk (show (xs.flatMap (Step.c 112)).length = xs.length * 8 from length_flatMap (Step.c 112) 8 (fun _ => rfl) xs)
  clear h hk
  go_enter Try.func77, Try.ntmps77
  go_wp2
  go_loopw [1, 5] (fun kk i wr => ∃ j : Nat, j ≤ xs.length ∧ i = .int .i64 j ∧ kk = .int .i64 ((kTo (xs.flatMap (Step.c 112)) (j * 8) k : Nat) : Int) ∧ MS (xs.flatMap (Step.c 112)) 108 8 xs.length (.slice A xs.length c) F w k (j * 8) wr) (fun _ i _ => xs.length - (intOf i).toNat)
  case atStart => exact ⟨0, by omega, rfl, by rw [Nat.zero_mul, kTo_zero], by simpa using hS.out⟩
  case round =>
    obtain ⟨j, hj, rfl, rfl, M0⟩ := hrel
    by_cases hlt : j < xs.length
    · obtain ⟨g, rfl⟩ := M0.form (by omega)
      have hg0 : g < wr.heap.size := (M0.at).elim id (fun h => by have := hlen.out; omega)
      obtain ⟨l0, e0⟩ : ∃ h : j * 8 < (xs.flatMap (Step.c 112)).length, (xs.flatMap (Step.c 112))[j * 8] = strsT 9 xs[j].Asks := fm_at (enc := (Step.c 112)) (sz := 8) (q := 0) (fun _ => rfl) hlt (by omega) rfl
      replace e0 := Asd.mk e0
      obtain ⟨u0, p0, f0⟩ := M0.cell l0
      obtain ⟨l1, e1⟩ : ∃ h : j * 8 + 1 < (xs.flatMap (Step.c 112)).length, (xs.flatMap (Step.c 112))[j * 8 + 1] = .i .i64 xs[j].On := fm_at (enc := (Step.c 112)) (sz := 8) (q := 1) (fun _ => rfl) hlt (by omega) rfl
      replace e1 := Asd.mk e1
      obtain ⟨u1, p1, f1⟩ := M0.cell l1
      obtain ⟨l2, e2⟩ : ∃ h : j * 8 + 2 < (xs.flatMap (Step.c 112)).length, (xs.flatMap (Step.c 112))[j * 8 + 2] = CasesT 112 xs[j].Cases := fm_at (enc := (Step.c 112)) (sz := 8) (q := 2) (fun _ => rfl) hlt (by omega) rfl
      replace e2 := Asd.mk e2
      obtain ⟨u2, p2, f2⟩ := M0.cell l2
      obtain ⟨l3, e3⟩ : ∃ h : j * 8 + 3 < (xs.flatMap (Step.c 112)).length, (xs.flatMap (Step.c 112))[j * 8 + 3] = .i .i64 xs[j].Else := fm_at (enc := (Step.c 112)) (sz := 8) (q := 3) (fun _ => rfl) hlt (by omega) rfl
      replace e3 := Asd.mk e3
      obtain ⟨u3, p3, f3⟩ := M0.cell l3
      obtain ⟨l4, e4⟩ : ∃ h : j * 8 + 4 < (xs.flatMap (Step.c 112)).length, (xs.flatMap (Step.c 112))[j * 8 + 4] = .i .i64 xs[j].Fall := fm_at (enc := (Step.c 112)) (sz := 8) (q := 4) (fun _ => rfl) hlt (by omega) rfl
      replace e4 := Asd.mk e4
      obtain ⟨u4, p4, f4⟩ := M0.cell l4
      obtain ⟨l5, e5⟩ : ∃ h : j * 8 + 5 < (xs.flatMap (Step.c 112)).length, (xs.flatMap (Step.c 112))[j * 8 + 5] = .b xs[j].End := fm_at (enc := (Step.c 112)) (sz := 8) (q := 5) (fun _ => rfl) hlt (by omega) rfl
      replace e5 := Asd.mk e5
      obtain ⟨u5, p5, f5⟩ := M0.cell l5
      obtain ⟨l6, e6⟩ : ∃ h : j * 8 + 6 < (xs.flatMap (Step.c 112)).length, (xs.flatMap (Step.c 112))[j * 8 + 6] = .b xs[j].Bad := fm_at (enc := (Step.c 112)) (sz := 8) (q := 6) (fun _ => rfl) hlt (by omega) rfl
      replace e6 := Asd.mk e6
      obtain ⟨u6, p6, f6⟩ := M0.cell l6
      obtain ⟨l7, e7⟩ : ∃ h : j * 8 + 7 < (xs.flatMap (Step.c 112)).length, (xs.flatMap (Step.c 112))[j * 8 + 7] = .s xs[j].Give := fm_at (enc := (Step.c 112)) (sz := 8) (q := 7) (fun _ => rfl) hlt (by omega) rfl
      replace e7 := Asd.mk e7
      obtain ⟨u7, p7, f7⟩ := M0.cell l7
      obtain ⟨K0, t0⟩ : ∃ K, kTo (xs.flatMap (Step.c 112)) (j * 8) k = K := ⟨_, rfl⟩
      have hKge : k ≤ K0 := by rw [← t0]; exact kTo_ge _ _ _
      obtain ⟨K1, s1⟩ : ∃ K, K0 + cnt (strsT 9 xs[j].Asks) = K := ⟨_, rfl⟩
      have t1 : kTo (xs.flatMap (Step.c 112)) (j * 8 + 1) k = K1 := by rw [show j * 8 + 1 = (j * 8) + 1 from rfl, kTo_succ k l0, e0.out, t0]; exact s1
      have z1 : K0 ≤ K1 := by omega
      replace s1 := Asd.mk s1
      have t2 : kTo (xs.flatMap (Step.c 112)) (j * 8 + 2) k = K1 + 1 := by rw [show j * 8 + 2 = (j * 8 + 1) + 1 from rfl, kTo_succ k l1, e1.out, t1]; rfl
      obtain ⟨K2, s2⟩ : ∃ K, K1 + 1 + cnt (CasesT 112 xs[j].Cases) = K := ⟨_, rfl⟩
      have t3 : kTo (xs.flatMap (Step.c 112)) (j * 8 + 3) k = K2 := by rw [show j * 8 + 3 = (j * 8 + 2) + 1 from rfl, kTo_succ k l2, e2.out, t2]; exact s2
      have z2 : K1 + 1 ≤ K2 := by omega
      replace s2 := Asd.mk s2
      have t4 : kTo (xs.flatMap (Step.c 112)) (j * 8 + 4) k = K2 + 1 := by rw [show j * 8 + 4 = (j * 8 + 3) + 1 from rfl, kTo_succ k l3, e3.out, t3]; rfl
      have t5 : kTo (xs.flatMap (Step.c 112)) (j * 8 + 5) k = K2 + 1 + 1 := by rw [show j * 8 + 5 = (j * 8 + 4) + 1 from rfl, kTo_succ k l4, e4.out, t4]; rfl
      have t6 : kTo (xs.flatMap (Step.c 112)) (j * 8 + 6) k = K2 + 1 + 1 + 1 := by rw [show j * 8 + 6 = (j * 8 + 5) + 1 from rfl, kTo_succ k l5, e5.out, t5]; rfl
      have t7 : kTo (xs.flatMap (Step.c 112)) (j * 8 + 7) k = K2 + 1 + 1 + 1 + 1 := by rw [show j * 8 + 7 = (j * 8 + 6) + 1 from rfl, kTo_succ k l6, e6.out, t6]; rfl
      have t8 : kTo (xs.flatMap (Step.c 112)) (j * 8 + 8) k = K2 + 1 + 1 + 1 + 1 + 1 := by rw [show j * 8 + 8 = (j * 8 + 7) + 1 from rfl, kTo_succ k l7, e7.out, t7]; rfl
      have hE : K2 + 1 + 1 + 1 + 1 + 1 ≤ 1000000000 := by have := kTo_bd (xs.flatMap (Step.c 112)) (j * 8 + 8) k; rw [t8] at this; omega
      rw [t0]
      replace t0 := Asd.mk t0
      replace t1 := Asd.mk t1
      replace t2 := Asd.mk t2
      replace t3 := Asd.mk t3
      replace t4 := Asd.mk t4
      replace t5 := Asd.mk t5
      replace t6 := Asd.mk t6
      replace t7 := Asd.mk t7
      replace t8 := Asd.mk t8
      replace M0 := Asd.mk M0
      obtain ⟨v0, F0, o0, d0, g0, c0, back0⟩ := M0.out.nested l0
      replace c0 := Asd.mk c0
      obtain rfl : v0 = u0 := Option.some.inj (c0.out.symm.trans (by go_simp))
      clear c0
      rw [e0.out, t0.out] at back0
      rw [e0.out] at o0
      obtain ⟨A0, C0, rfl, _, _⟩ := own_slice (show own _ (strsT 9 xs[j].Asks) v0 F0 from o0)
      replace o0 := Asd.mk o0
      replace back0 := Asd.mk back0
      replace d0 := Asd.mk d0
      have hx0 := markStringS_calls xs[j].Asks _ F0 (K0) ((K0 : Int)) _ (by omega) o0.out d0.out (by omega) (by have := s1.out; omega)
      replace hx0 := Asd.mk hx0
      go_wp2_with fail
      refine hx0.out.mono ?_
      rintro e w0 hM0
      obtain ⟨M1, hc0, hf0⟩ := back0.out _ _ hM0
      have he0 := hM0.1
      rw [s1.out] at he0
      subst he0
      have hg1 : g < w0.heap.size := by have := hM0.2.2.size; (try simp at this); omega
      replace M1 := Asd.mk M1
      clear hM0
      have M2 := Asd.mk (M1.out.store l1 (u := .int .i64 ((K1 : Int))) (by rw [e1.out, t1.out]; exact own_iN _ _ (by omega)))
      obtain ⟨v2, F2, o2, d2, g2, c2, back2⟩ := M2.out.nested l2
      replace c2 := Asd.mk c2
      obtain rfl : v2 = u2 := Option.some.inj (c2.out.symm.trans (by go_simp))
      clear c2
      rw [e2.out, t2.out] at back2
      rw [e2.out] at o2
      obtain ⟨A2, C2, rfl, _, _⟩ := own_slice (show own _ (CasesT 112 xs[j].Cases) v2 F2 from o2)
      replace o2 := Asd.mk o2
      replace back2 := Asd.mk back2
      replace d2 := Asd.mk d2
      have hx2 := markCaseS_calls xs[j].Cases _ F2 (K1 + 1) ((K1 : Int) + 1) _ (by omega) o2.out d2.out (by omega) (by have := s2.out; omega)
      replace hx2 := Asd.mk hx2
      go_wp2_with fail
      refine hx2.out.mono ?_
      rintro e w2 hM2
      obtain ⟨M3, hc2, hf2⟩ := back2.out _ _ hM2
      have he2 := hM2.1
      rw [s2.out] at he2
      subst he2
      have hg3 : g < w2.heap.size := by have := hM2.2.2.size; (try simp at this); omega
      replace M3 := Asd.mk M3
      clear hM2
      have M4 := Asd.mk (M3.out.store l3 (u := .int .i64 ((K2 : Int))) (by rw [e3.out, t3.out]; exact own_iN _ _ (by omega)))
      have M5 := Asd.mk (M4.out.store l4 (u := .int .i64 ((K2 : Int) + 1)) (by rw [e4.out, t4.out]; exact own_iN _ _ (by omega)))
      have M6 := Asd.mk (M5.out.store l5 (u := .bool (((K2 : Int) + 1 + 1) % 3 == 0)) (by rw [e5.out, t5.out]; exact own_bN _ (by unfold m3; first | rfl | (congr 1; omega))))
      have M7 := Asd.mk (M6.out.store l6 (u := .bool (((K2 : Int) + 1 + 1 + 1) % 3 == 0)) (by rw [e6.out, t6.out]; exact own_bN _ (by unfold m3; first | rfl | (congr 1; omega))))
      go_wp2_with fail
      refine (markText_callsI (K2 + 1 + 1 + 1 + 1) _ _ (by omega) (by omega) (by omega)).mono ?_
      rintro e w7 ⟨rfl, hb7⟩
      have hg8 : g < w7.heap.size := by have := hb7.size; (try simp at this); omega
      have hc7 : ∀ o, w7.cell? ⟨g, o, none⟩ = _ := fun o => hb7.cell (p := ⟨g, o, none⟩) (by first | (simp; done) | (simp; omega) | omega)
      have hf7 : ∀ o, w7.frozen? ⟨g, o, none⟩ = _ := fun o => hb7.frozen (p := ⟨g, o, none⟩) (by first | (simp; done) | (simp; omega) | omega)
      have M8 := Asd.mk ((M7.out.below hb7).store l7 (u := .string (mkB (K2 + 1 + 1 + 1 + 1))) (by rw [e7.out, t7.out]; exact own_s _ _))
      clear hb7
      go_wp2
      go_roundw
      case rel => exact ⟨j + 1, by omega, by go_num, by first | (rw [show (j + 1) * 8 = j * 8 + 8 by omega, t8.out]; done) | (rw [show (j + 1) * 8 = j * 8 + 8 by omega, t8.out]; first | rfl | go_num), by rw [show (j + 1) * 8 = j * 8 + 8 by omega]; exact M8.out⟩
      case measure => simp [intOf]; omega
    · obtain rfl : j = xs.length := by omega
      have e1 := Asd.mk (show kTo (xs.flatMap (Step.c 112)) (xs.length * 8) k = k + cnt (StepsT 108 112 xs) by rw [← hlen.out]; exact kTo_end _ _)
      have M1 := Asd.mk M0.fr
      replace M0 := Asd.mk (MS.fin2 hlen.out.symm M0)
      go_wp2
      go_ret
      exact ⟨by rw [e1.out]; rfl, M0.out, M1.out⟩
set_option maxRecDepth 100000 in
set_option maxHeartbeats 4000000 in
theorem heldStepS_calls (xs : List Step) (v : Value) (F : List Nat) (k : Nat) (n : Int) (w : World) (hn : n = k) (h : own w (mrk (StepsT 108 112 xs) k) v F) (h0 : 1 ≤ k) (hk : k + cnt (StepsT 108 112 xs) ≤ 1000000000) :
    Calls Try.prog 78 #[v, .int .i64 n] w fun e w' => e = .returned (.int .i64 ((k + cnt (StepsT 108 112 xs) : Nat) : Int)) ∧ Below w.heap.size w w' := by
  subst hn
  replace h : own w (.l 108 8 xs.length (mrks (xs.flatMap (Step.c 112)) k)) v F := h
  obtain ⟨A, c, rfl, _, _⟩ := own_slice h
  have hk2 : k + cnts (xs.flatMap (Step.c 112)) ≤ 1000000000 := hk
  have hlen := Asd.mk (show (xs.flatMap (Step.c 112)).length = xs.length * 8 from length_flatMap (Step.c 112) 8 (fun _ => rfl) xs)
  replace h := Asd.mk h
  clear hk
  go_enter Try.func78, Try.ntmps78
  go_wp2
  go_loopw [1, 5] (fun kk i wr => ∃ j : Nat, j ≤ xs.length ∧ i = .int .i64 j ∧ kk = .int .i64 ((kTo (xs.flatMap (Step.c 112)) (j * 8) k : Nat) : Int) ∧ Below w.heap.size w wr) (fun _ i _ => xs.length - (intOf i).toNat)
  case atStart => exact ⟨0, by omega, rfl, by rw [Nat.zero_mul, kTo_zero], Below.refl _ _⟩
  case round =>
    obtain ⟨j, hj, rfl, rfl, HB⟩ := hrel
    replace HB := Asd.mk HB
    by_cases hlt : j < xs.length
    · obtain ⟨g, rfl⟩ : ∃ g, A = some ⟨g, 0, none⟩ := by
        obtain ⟨g, c', he, _⟩ := own_form h.out (by omega)
        cases he; exact ⟨g, rfl⟩
      obtain ⟨l0, e0⟩ : ∃ h : j * 8 < (xs.flatMap (Step.c 112)).length, (xs.flatMap (Step.c 112))[j * 8] = strsT 9 xs[j].Asks := fm_at (enc := (Step.c 112)) (sz := 8) (q := 0) (fun _ => rfl) hlt (by omega) rfl
      replace e0 := Asd.mk e0
      obtain ⟨l1, e1⟩ : ∃ h : j * 8 + 1 < (xs.flatMap (Step.c 112)).length, (xs.flatMap (Step.c 112))[j * 8 + 1] = .i .i64 xs[j].On := fm_at (enc := (Step.c 112)) (sz := 8) (q := 1) (fun _ => rfl) hlt (by omega) rfl
      replace e1 := Asd.mk e1
      obtain ⟨l2, e2⟩ : ∃ h : j * 8 + 2 < (xs.flatMap (Step.c 112)).length, (xs.flatMap (Step.c 112))[j * 8 + 2] = CasesT 112 xs[j].Cases := fm_at (enc := (Step.c 112)) (sz := 8) (q := 2) (fun _ => rfl) hlt (by omega) rfl
      replace e2 := Asd.mk e2
      obtain ⟨l3, e3⟩ : ∃ h : j * 8 + 3 < (xs.flatMap (Step.c 112)).length, (xs.flatMap (Step.c 112))[j * 8 + 3] = .i .i64 xs[j].Else := fm_at (enc := (Step.c 112)) (sz := 8) (q := 3) (fun _ => rfl) hlt (by omega) rfl
      replace e3 := Asd.mk e3
      obtain ⟨l4, e4⟩ : ∃ h : j * 8 + 4 < (xs.flatMap (Step.c 112)).length, (xs.flatMap (Step.c 112))[j * 8 + 4] = .i .i64 xs[j].Fall := fm_at (enc := (Step.c 112)) (sz := 8) (q := 4) (fun _ => rfl) hlt (by omega) rfl
      replace e4 := Asd.mk e4
      obtain ⟨l5, e5⟩ : ∃ h : j * 8 + 5 < (xs.flatMap (Step.c 112)).length, (xs.flatMap (Step.c 112))[j * 8 + 5] = .b xs[j].End := fm_at (enc := (Step.c 112)) (sz := 8) (q := 5) (fun _ => rfl) hlt (by omega) rfl
      replace e5 := Asd.mk e5
      obtain ⟨l6, e6⟩ : ∃ h : j * 8 + 6 < (xs.flatMap (Step.c 112)).length, (xs.flatMap (Step.c 112))[j * 8 + 6] = .b xs[j].Bad := fm_at (enc := (Step.c 112)) (sz := 8) (q := 6) (fun _ => rfl) hlt (by omega) rfl
      replace e6 := Asd.mk e6
      obtain ⟨l7, e7⟩ : ∃ h : j * 8 + 7 < (xs.flatMap (Step.c 112)).length, (xs.flatMap (Step.c 112))[j * 8 + 7] = .s xs[j].Give := fm_at (enc := (Step.c 112)) (sz := 8) (q := 7) (fun _ => rfl) hlt (by omega) rfl
      replace e7 := Asd.mk e7
      obtain ⟨K0, t0⟩ : ∃ K, kTo (xs.flatMap (Step.c 112)) (j * 8) k = K := ⟨_, rfl⟩
      have hKge : k ≤ K0 := by rw [← t0]; exact kTo_ge _ _ _
      obtain ⟨K1, s1⟩ : ∃ K, K0 + cnt (strsT 9 xs[j].Asks) = K := ⟨_, rfl⟩
      have t1 : kTo (xs.flatMap (Step.c 112)) (j * 8 + 1) k = K1 := by rw [show j * 8 + 1 = (j * 8) + 1 from rfl, kTo_succ k l0, e0.out, t0]; exact s1
      have z1 : K0 ≤ K1 := by omega
      replace s1 := Asd.mk s1
      have t2 : kTo (xs.flatMap (Step.c 112)) (j * 8 + 2) k = K1 + 1 := by rw [show j * 8 + 2 = (j * 8 + 1) + 1 from rfl, kTo_succ k l1, e1.out, t1]; rfl
      obtain ⟨K2, s2⟩ : ∃ K, K1 + 1 + cnt (CasesT 112 xs[j].Cases) = K := ⟨_, rfl⟩
      have t3 : kTo (xs.flatMap (Step.c 112)) (j * 8 + 3) k = K2 := by rw [show j * 8 + 3 = (j * 8 + 2) + 1 from rfl, kTo_succ k l2, e2.out, t2]; exact s2
      have z2 : K1 + 1 ≤ K2 := by omega
      replace s2 := Asd.mk s2
      have t4 : kTo (xs.flatMap (Step.c 112)) (j * 8 + 4) k = K2 + 1 := by rw [show j * 8 + 4 = (j * 8 + 3) + 1 from rfl, kTo_succ k l3, e3.out, t3]; rfl
      have t5 : kTo (xs.flatMap (Step.c 112)) (j * 8 + 5) k = K2 + 1 + 1 := by rw [show j * 8 + 5 = (j * 8 + 4) + 1 from rfl, kTo_succ k l4, e4.out, t4]; rfl
      have t6 : kTo (xs.flatMap (Step.c 112)) (j * 8 + 6) k = K2 + 1 + 1 + 1 := by rw [show j * 8 + 6 = (j * 8 + 5) + 1 from rfl, kTo_succ k l5, e5.out, t5]; rfl
      have t7 : kTo (xs.flatMap (Step.c 112)) (j * 8 + 7) k = K2 + 1 + 1 + 1 + 1 := by rw [show j * 8 + 7 = (j * 8 + 6) + 1 from rfl, kTo_succ k l6, e6.out, t6]; rfl
      have t8 : kTo (xs.flatMap (Step.c 112)) (j * 8 + 8) k = K2 + 1 + 1 + 1 + 1 + 1 := by rw [show j * 8 + 8 = (j * 8 + 7) + 1 from rfl, kTo_succ k l7, e7.out, t7]; rfl
      have hE : K2 + 1 + 1 + 1 + 1 + 1 ≤ 1000000000 := by have := kTo_bd (xs.flatMap (Step.c 112)) (j * 8 + 8) k; rw [t8] at this; omega
      rw [t0]
      replace t0 := Asd.mk t0
      replace t1 := Asd.mk t1
      replace t2 := Asd.mk t2
      replace t3 := Asd.mk t3
      replace t4 := Asd.mk t4
      replace t5 := Asd.mk t5
      replace t6 := Asd.mk t6
      replace t7 := Asd.mk t7
      replace t8 := Asd.mk t8
      obtain ⟨u0, F0, o0, c0⟩ := mrk_cell h.out l0
      rw [e0.out, t0.out] at o0
      replace o0 : own w (mrk (strsT 9 xs[j].Asks) (K0)) u0 F0 := o0
      obtain ⟨A0, C0, rfl, _, _⟩ : ∃ A c, u0 = .slice A (xs[j].Asks).length c ∧ (xs[j].Asks).length ≤ c ∧ (xs[j].Asks).length ≤ 9223372036854775807 := own_slice o0
      replace o0 := Asd.mk o0
      have k0 := Asd.mk (fun (X : World) (hX : Below w.heap.size w X) => cell_below hX c0)
      obtain ⟨u1, F1, o1, c1⟩ := mrk_cell h.out l1
      rw [e1.out, t1.out] at o1
      obtain rfl : u1 = .int .i64 ((K1 : Int)) := by
        have h : own w (.i .i64 ((K1 : Nat) : Int)) u1 F1 := o1
        simp only [own] at h
        rw [h.1]
      clear o1
      have k1 := Asd.mk (fun (X : World) (hX : Below w.heap.size w X) => cell_below hX c1)
      obtain ⟨u2, F2, o2, c2⟩ := mrk_cell h.out l2
      rw [e2.out, t2.out] at o2
      replace o2 : own w (mrk (CasesT 112 xs[j].Cases) (K1 + 1)) u2 F2 := o2
      obtain ⟨A2, C2, rfl, _, _⟩ : ∃ A c, u2 = .slice A (xs[j].Cases).length c ∧ (xs[j].Cases).length ≤ c ∧ (xs[j].Cases).length ≤ 9223372036854775807 := own_slice o2
      replace o2 := Asd.mk o2
      have k2 := Asd.mk (fun (X : World) (hX : Below w.heap.size w X) => cell_below hX c2)
      obtain ⟨u3, F3, o3, c3⟩ := mrk_cell h.out l3
      rw [e3.out, t3.out] at o3
      obtain rfl : u3 = .int .i64 ((K2 : Int)) := by
        have h : own w (.i .i64 ((K2 : Nat) : Int)) u3 F3 := o3
        simp only [own] at h
        rw [h.1]
      clear o3
      have k3 := Asd.mk (fun (X : World) (hX : Below w.heap.size w X) => cell_below hX c3)
      obtain ⟨u4, F4, o4, c4⟩ := mrk_cell h.out l4
      rw [e4.out, t4.out] at o4
      obtain rfl : u4 = .int .i64 ((K2 : Int) + 1) := by
        have h : own w (.i .i64 ((K2 + 1 : Nat) : Int)) u4 F4 := o4
        simp only [own] at h
        rw [h.1]
        congr 1
      clear o4
      have k4 := Asd.mk (fun (X : World) (hX : Below w.heap.size w X) => cell_below hX c4)
      obtain ⟨u5, F5, o5, c5⟩ := mrk_cell h.out l5
      rw [e5.out, t5.out] at o5
      obtain rfl : u5 = .bool (((K2 : Int) + 1 + 1) % 3 == 0) := by
        have h : own w (.b (m3 (K2 + 1 + 1))) u5 F5 := o5
        simp only [own] at h
        rw [h.1]
        unfold m3
        first | rfl | (congr 1; omega) | (congr 2; omega)
      clear o5
      have k5 := Asd.mk (fun (X : World) (hX : Below w.heap.size w X) => cell_below hX c5)
      obtain ⟨u6, F6, o6, c6⟩ := mrk_cell h.out l6
      rw [e6.out, t6.out] at o6
      obtain rfl : u6 = .bool (((K2 : Int) + 1 + 1 + 1) % 3 == 0) := by
        have h : own w (.b (m3 (K2 + 1 + 1 + 1))) u6 F6 := o6
        simp only [own] at h
        rw [h.1]
        unfold m3
        first | rfl | (congr 1; omega) | (congr 2; omega)
      clear o6
      have k6 := Asd.mk (fun (X : World) (hX : Below w.heap.size w X) => cell_below hX c6)
      obtain ⟨u7, F7, o7, c7⟩ := mrk_cell h.out l7
      rw [e7.out, t7.out] at o7
      obtain rfl : u7 = .string (mkB (K2 + 1 + 1 + 1 + 1)) := by
        have h : own w (.s (mkB (K2 + 1 + 1 + 1 + 1))) u7 F7 := o7
        simp only [own] at h
        rw [h.1]
      clear o7
      have k7 := Asd.mk (fun (X : World) (hX : Below w.heap.size w X) => cell_below hX c7)
      clear c0 c1 c2 c3 c4 c5 c6 c7
      have r0 := k0.out _ HB.out
      have r1 := k1.out _ HB.out
      have r2 := k2.out _ HB.out
      have r3 := k3.out _ HB.out
      have r4 := k4.out _ HB.out
      have r5 := k5.out _ HB.out
      have r6 := k6.out _ HB.out
      have r7 := k7.out _ HB.out
      have i0 : (0 : Int) ≤ (j : Int) := by omega
      have i1 : (j : Int) < (xs.length : Int) := by omega
      go_wp2_with fail
      refine (heldStringS_calls xs[j].Asks _ F0 (K0) _ _ (by omega) (o0.out.below (by repeat (first | (with_reducible exact Below.refl _ _) | (with_reducible exact HB.out) | (with_reducible refine below_al ?_ _) | (with_reducible refine below_dr ?_ _) | (with_reducible refine below_d1 ?_) | ((with_reducible refine Below.setCell ?_ ?_ _); rotate_left; (next => first | (simp; done) | (simp; omega) | omega))))) (by omega) (by have := s1.out; omega)).mono ?_
      rintro e w0 ⟨he, hb⟩
      rw [s1.out] at he
      subst he
      have HB0 := Asd.mk (below_st (w := w) (by repeat (first | (with_reducible exact Below.refl _ _) | (with_reducible exact HB.out) | (with_reducible refine below_al ?_ _) | (with_reducible refine below_dr ?_ _) | (with_reducible refine below_d1 ?_) | ((with_reducible refine Below.setCell ?_ ?_ _); rotate_left; (next => first | (simp; done) | (simp; omega) | omega)))) hb)
      clear hb
      replace r0 := k0.out _ HB0.out
      replace r1 := k1.out _ HB0.out
      replace r2 := k2.out _ HB0.out
      replace r3 := k3.out _ HB0.out
      replace r4 := k4.out _ HB0.out
      replace r5 := k5.out _ HB0.out
      replace r6 := k6.out _ HB0.out
      replace r7 := k7.out _ HB0.out
      go_wp2_with fail
      refine (heldCaseS_calls xs[j].Cases _ F2 (K1 + 1) _ _ (by omega) (o2.out.below (by repeat (first | (with_reducible exact Below.refl _ _) | (with_reducible exact HB0.out) | (with_reducible refine below_al ?_ _) | (with_reducible refine below_dr ?_ _) | (with_reducible refine below_d1 ?_) | ((with_reducible refine Below.setCell ?_ ?_ _); rotate_left; (next => first | (simp; done) | (simp; omega) | omega))))) (by omega) (by have := s2.out; omega)).mono ?_
      rintro e w2 ⟨he, hb⟩
      rw [s2.out] at he
      subst he
      have HB2 := Asd.mk (below_st (w := w) (by repeat (first | (with_reducible exact Below.refl _ _) | (with_reducible exact HB0.out) | (with_reducible refine below_al ?_ _) | (with_reducible refine below_dr ?_ _) | (with_reducible refine below_d1 ?_) | ((with_reducible refine Below.setCell ?_ ?_ _); rotate_left; (next => first | (simp; done) | (simp; omega) | omega)))) hb)
      clear hb
      replace r0 := k0.out _ HB2.out
      replace r1 := k1.out _ HB2.out
      replace r2 := k2.out _ HB2.out
      replace r3 := k3.out _ HB2.out
      replace r4 := k4.out _ HB2.out
      replace r5 := k5.out _ HB2.out
      replace r6 := k6.out _ HB2.out
      replace r7 := k7.out _ HB2.out
      go_wp2
      go_region_held3 (fun X => X.cell? ⟨g, j * 8 + 7, none⟩ = some (.string (mkB (K2 + 1 + 1 + 1 + 1)))) ((refine k7.out _ ?_; (repeat (first | (with_reducible exact Below.refl _ _) | (with_reducible exact HB2.out) | (with_reducible exact hb5.out) | (with_reducible refine below_al ?_ _) | (with_reducible refine below_dr ?_ _) | (with_reducible refine below_d1 ?_) | ((with_reducible refine Below.setCell ?_ ?_ _); rotate_left; (next => first | (simp; done) | (simp; omega) | omega)))); done))
        ((go_at_call 66; refine (markText_callsI (K2 + 1 + 1 + 1 + 1) _ _ (by omega) (by omega) (by omega)).mono ?_; rintro e w7 ⟨rfl, hb⟩; have hb5 := Asd.mk (below_st (w := w) (by repeat (first | (with_reducible exact Below.refl _ _) | (with_reducible exact HB2.out) | (with_reducible refine below_al ?_ _) | (with_reducible refine below_dr ?_ _) | (with_reducible refine below_d1 ?_) | ((with_reducible refine Below.setCell ?_ ?_ _); rotate_left; (next => first | (simp; done) | (simp; omega) | omega)))) hb); clear hb))
      have HB7 := Asd.mk (show Below w.heap.size w w7 from by repeat (first | (with_reducible exact Below.refl _ _) | (with_reducible exact hb5.out) | (with_reducible refine below_al ?_ _) | (with_reducible refine below_dr ?_ _) | (with_reducible refine below_d1 ?_) | ((with_reducible refine Below.setCell ?_ ?_ _); rotate_left; (next => first | (simp; done) | (simp; omega) | omega))))
      clear hb5
      replace r0 := k0.out _ HB7.out
      replace r1 := k1.out _ HB7.out
      replace r2 := k2.out _ HB7.out
      replace r3 := k3.out _ HB7.out
      replace r4 := k4.out _ HB7.out
      replace r5 := k5.out _ HB7.out
      replace r6 := k6.out _ HB7.out
      replace r7 := k7.out _ HB7.out
      go_wp2
      go_roundw
      case rel => exact ⟨j + 1, by omega, by go_num, by first | (rw [show (j + 1) * 8 = j * 8 + 8 by omega, t8.out]; done) | (rw [show (j + 1) * 8 = j * 8 + 8 by omega, t8.out]; first | rfl | go_num), HB7.out⟩
      case measure => simp [intOf]; omega
    · obtain rfl : j = xs.length := by omega
      have e1 := Asd.mk (show kTo (xs.flatMap (Step.c 112)) (xs.length * 8) k = k + cnt (StepsT 108 112 xs) by rw [← hlen.out]; exact kTo_end _ _)
      go_wp2
      go_ret
      exact ⟨by rw [e1.out]; rfl, HB.out⟩
end Go.Proofs.Ytmjfkjdfmpileaa.M
