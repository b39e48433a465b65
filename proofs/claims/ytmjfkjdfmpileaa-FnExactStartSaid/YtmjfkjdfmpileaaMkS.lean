/- Contracts: the laws' own marks. -/
import Derived.Test.YtmjfkjdfmpileaaMrk
import Derived.Deep.RegionHeld3
set_option linter.unusedVariables false
set_option linter.unusedSimpArgs false
namespace Go.Proofs.Ytmjfkjdfmpileaa.M
open Go.RowKit

set_option maxRecDepth 100000 in
set_option maxHeartbeats 4000000 in
theorem markStringS_calls (xs : List ByteArray) (v : Value) (F : List Nat) (k : Nat) (n : Int) (w : World) (hn : n = k) (h : own w (strsT 9 xs) v F) (hd : F.Nodup) (h0 : 1 ≤ k) (hk : k + cnt (strsT 9 xs) ≤ 1000000000) :
    Calls Try.prog 29 #[v, .int .i64 n] w (MrkP (strsT 9 xs) v F k w) := by
  subst hn
  obtain ⟨A, c, rfl, _, _⟩ := own_slice h
  have hk2 : k + cnts (xs.flatMap strC) ≤ 1000000000 := hk
  have hS := Asd.mk (MS.start (k := k) (cells := (xs.flatMap strC)) h hd)
  have hlen := Asd.mk (show (xs.flatMap strC).length = xs.length from (by simpa using length_flatMap strC 1 (fun _ => rfl) xs))
  clear h hk
  go_enter Try.func29, Try.ntmps29
  go_wp2
  go_loopw [1, 5] (fun kk i wr => ∃ j : Nat, j ≤ xs.length ∧ i = .int .i64 j ∧ kk = .int .i64 ((kTo (xs.flatMap strC) j k : Nat) : Int) ∧ MS (xs.flatMap strC) 9 1 xs.length (.slice A xs.length c) F w k j wr) (fun _ i _ => xs.length - (intOf i).toNat)
  case atStart => exact ⟨0, by omega, rfl, by rw [kTo_zero], by simpa using hS.out⟩
  case round =>
    obtain ⟨j, hj, rfl, rfl, M0⟩ := hrel
    by_cases hlt : j < xs.length
    · obtain ⟨g, rfl⟩ := M0.form (by omega)
      have hg0 : g < wr.heap.size := (M0.at).elim id (fun h => by have := hlen.out; omega)
      obtain ⟨l0, e0⟩ : ∃ h : j < (xs.flatMap strC).length, (xs.flatMap strC)[j] = .s xs[j] := fm_at (enc := strC) (sz := 1) (q := 0) (fun _ => rfl) hlt (by omega) rfl
      replace e0 := Asd.mk e0
      obtain ⟨u0, p0, f0⟩ := M0.cell l0
      obtain ⟨K0, t0⟩ : ∃ K, kTo (xs.flatMap strC) j k = K := ⟨_, rfl⟩
      have hKge : k ≤ K0 := by rw [← t0]; exact kTo_ge _ _ _
      have t1 : kTo (xs.flatMap strC) (j + 1) k = K0 + 1 := by rw [kTo_succ k l0, e0.out, t0]; rfl
      have hE : K0 + 1 ≤ 1000000000 := by have := kTo_bd (xs.flatMap strC) (j + 1) k; rw [t1] at this; omega
      rw [t0]
      replace t0 := Asd.mk t0
      replace t1 := Asd.mk t1
      replace M0 := Asd.mk M0
      go_wp2_with fail
      refine (markText_callsI (K0) _ _ (by omega) (by omega) (by omega)).mono ?_
      rintro e w0 ⟨rfl, hb0⟩
      have hg1 : g < w0.heap.size := by have := hb0.size; (try simp at this); omega
      have hc0 : ∀ o, w0.cell? ⟨g, o, none⟩ = _ := fun o => hb0.cell (p := ⟨g, o, none⟩) (by first | (simp; done) | (simp; omega) | omega)
      have hf0 : ∀ o, w0.frozen? ⟨g, o, none⟩ = _ := fun o => hb0.frozen (p := ⟨g, o, none⟩) (by first | (simp; done) | (simp; omega) | omega)
      have M1 := Asd.mk ((M0.out.below hb0).store l0 (u := .string (mkB (K0))) (by rw [e0.out, t0.out]; exact own_s _ _))
      clear hb0
      go_wp2
      go_roundw
      case rel => exact ⟨j + 1, by omega, by go_num, by first | (rw [t1.out]; done) | (rw [t1.out]; first | rfl | go_num), by exact M1.out⟩
      case measure => simp [intOf]; omega
    · obtain rfl : j = xs.length := by omega
      have e1 := Asd.mk (show kTo (xs.flatMap strC) xs.length k = k + cnt (strsT 9 xs) by rw [← hlen.out]; exact kTo_end _ _)
      have M1 := Asd.mk M0.fr
      replace M0 := Asd.mk (MS.fin2 hlen.out.symm M0)
      go_wp2
      go_ret
      exact ⟨by rw [e1.out]; rfl, M0.out, M1.out⟩
set_option maxRecDepth 100000 in
set_option maxHeartbeats 4000000 in
theorem heldStringS_calls (xs : List ByteArray) (v : Value) (F : List Nat) (k : Nat) (n : Int) (w : World) (hn : n = k) (h : own w (mrk (strsT 9 xs) k) v F) (h0 : 1 ≤ k) (hk : k + cnt (strsT 9 xs) ≤ 1000000000) :
    Calls Try.prog 68 #[v, .int .i64 n] w fun e w' => e = .returned (.int .i64 ((k + cnt (strsT 9 xs) : Nat) : Int)) ∧ Below w.heap.size w w' := by
  subst hn
  replace h : own w (.l 9 1 xs.length (mrks (xs.flatMap strC) k)) v F := h
  obtain ⟨A, c, rfl, _, _⟩ := own_slice h
  have hk2 : k + cnts (xs.flatMap strC) ≤ 1000000000 := hk
  have hlen := Asd.mk (show (xs.flatMap strC).length = xs.length from (by simpa using length_flatMap strC 1 (fun _ => rfl) xs))
  replace h := Asd.mk h
  clear hk
  go_enter Try.func68, Try.ntmps68
  go_wp2
  go_loopw [1, 5] (fun kk i wr => ∃ j : Nat, j ≤ xs.length ∧ i = .int .i64 j ∧ kk = .int .i64 ((kTo (xs.flatMap strC) j k : Nat) : Int) ∧ Below w.heap.size w wr) (fun _ i _ => xs.length - (intOf i).toNat)
  case atStart => exact ⟨0, by omega, rfl, by rw [kTo_zero], Below.refl _ _⟩
  case round =>
    obtain ⟨j, hj, rfl, rfl, HB⟩ := hrel
    replace HB := Asd.mk HB
    by_cases hlt : j < xs.length
    · obtain ⟨g, rfl⟩ : ∃ g, A = some ⟨g, 0, none⟩ := by
        obtain ⟨g, c', he, _⟩ := own_form h.out (by omega)
        cases he; exact ⟨g, rfl⟩
      obtain ⟨l0, e0⟩ : ∃ h : j < (xs.flatMap strC).length, (xs.flatMap strC)[j] = .s xs[j] := fm_at (enc := strC) (sz := 1) (q := 0) (fun _ => rfl) hlt (by omega) rfl
      replace e0 := Asd.mk e0
      obtain ⟨K0, t0⟩ : ∃ K, kTo (xs.flatMap strC) j k = K := ⟨_, rfl⟩
      have hKge : k ≤ K0 := by rw [← t0]; exact kTo_ge _ _ _
      have t1 : kTo (xs.flatMap strC) (j + 1) k = K0 + 1 := by rw [kTo_succ k l0, e0.out, t0]; rfl
      have hE : K0 + 1 ≤ 1000000000 := by have := kTo_bd (xs.flatMap strC) (j + 1) k; rw [t1] at this; omega
      rw [t0]
      replace t0 := Asd.mk t0
      replace t1 := Asd.mk t1
      obtain ⟨u0, F0, o0, c0⟩ := mrk_cell h.out l0
      rw [e0.out, t0.out] at o0
      obtain rfl : u0 = .string (mkB (K0)) := by
        have h : own w (.s (mkB (K0))) u0 F0 := o0
        simp only [own] at h
        rw [h.1]
      clear o0
      have k0 := Asd.mk (fun (X : World) (hX : Below w.heap.size w X) => cell_below hX c0)
      clear c0
      have r0 := k0.out _ HB.out
      have i0 : (0 : Int) ≤ (j : Int) := by omega
      have i1 : (j : Int) < (xs.length : Int) := by omega
      go_wp2
      go_region_held3 (fun X => X.cell? ⟨g, j, none⟩ = some (.string (mkB (K0)))) ((refine k0.out _ ?_; (repeat (first | (with_reducible exact Below.refl _ _) | (with_reducible exact HB.out) | (with_reducible exact hb5.out) | (with_reducible refine below_al ?_ _) | (with_reducible refine below_dr ?_ _) | (with_reducible refine below_d1 ?_) | ((with_reducible refine Below.setCell ?_ ?_ _); rotate_left; (next => first | (simp; done) | (simp; omega) | omega)))); done))
        ((go_at_call 66; refine (markText_callsI (K0) _ _ (by omega) (by omega) (by omega)).mono ?_; rintro e w0 ⟨rfl, hb⟩; have hb5 := Asd.mk (below_st (w := w) (by repeat (first | (with_reducible exact Below.refl _ _) | (with_reducible exact HB.out) | (with_reducible refine below_al ?_ _) | (with_reducible refine below_dr ?_ _) | (with_reducible refine below_d1 ?_) | ((with_reducible refine Below.setCell ?_ ?_ _); rotate_left; (next => first | (simp; done) | (simp; omega) | omega)))) hb); clear hb))
      have HB0 := Asd.mk (show Below w.heap.size w w0 from by repeat (first | (with_reducible exact Below.refl _ _) | (with_reducible exact hb5.out) | (with_reducible refine below_al ?_ _) | (with_reducible refine below_dr ?_ _) | (with_reducible refine below_d1 ?_) | ((with_reducible refine Below.setCell ?_ ?_ _); rotate_left; (next => first | (simp; done) | (simp; omega) | omega))))
      clear hb5
      replace r0 := k0.out _ HB0.out
      go_wp2
      go_roundw
      case rel => exact ⟨j + 1, by omega, by go_num, by first | (rw [t1.out]; done) | (rw [t1.out]; first | rfl | go_num), HB0.out⟩
      case measure => simp [intOf]; omega
    · obtain rfl : j = xs.length := by omega
      have e1 := Asd.mk (show kTo (xs.flatMap strC) xs.length k = k + cnt (strsT 9 xs) by rw [← hlen.out]; exact kTo_end _ _)
      go_wp2
      go_ret
      exact ⟨by rw [e1.out]; rfl, HB.out⟩
end Go.Proofs.Ytmjfkjdfmpileaa.M
