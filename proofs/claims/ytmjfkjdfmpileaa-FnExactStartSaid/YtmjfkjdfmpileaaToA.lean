/- Contracts: the laws' own copies. -/
import Derived.Test.YtmjfkjdfmpileaaInf
import Derived.Test.YtmjfkjdfmpileaaToS
import Derived.Test.YtmjfkjdfmpileaaSzA
set_option linter.unusedVariables false
set_option linter.unusedSimpArgs false
namespace Go.Proofs.Ytmjfkjdfmpileaa.M
open Go.RowKit

set_option maxRecDepth 100000 in
set_option maxHeartbeats 1000000 in
theorem toCase_calls (x : Case) (w : World) {vs : List Value} (h : reps w (x.c) vs) (hz : x.bk ≤ 1048576) :
    Calls Try.prog 113 #[.agg vs.toArray] w (MadeA w (x.c)) := by
  obtain rfl := Case.ropen h
  clear h
  unfold Case.bk at hz
  have HB := Asd.mk (Below.refl w.heap.size w)
  go_enter Try.func113, Try.ntmps113
  go_wp2
  refine bodyPost_ret (v := .agg #[.string x.Text, .int .i64 x.Goto]) (by simp [results, Try.results113, go_sem, *]) rfl ?_
  exact ⟨_, rfl, ⟨[], Case.omk x, by simp, by simp⟩, by repeat (first | (with_reducible exact Below.refl _ _) | (with_reducible exact HB.out) | (with_reducible refine below_al ?_ _) | ((with_reducible refine Below.setCell ?_ ?_ _); rotate_left; (next => first | (simp; done) | (simp; omega))))⟩
set_option maxRecDepth 100000 in
set_option maxHeartbeats 1000000 in
theorem toCaseS_calls {tCase : Nat} (xs : List Case) (v : Value) (w : World) (h : rep w (CasesT tCase xs) v) (hz : Case.bs xs ≤ 1048576) :
    Calls Try.prog 107 #[v] w (MadeV w (CasesT 112 xs)) := by
  obtain ⟨A, c, rfl, hc, hn⟩ := rep_len h
  have h := Asd.mk h
  have hln : xs.length ≤ 1048576 := by unfold Case.bs bsOf at hz; omega
  go_enter Try.func107, Try.ntmps107
  go_wp2_with (first | (at_make; refine mk rfl rfl Try.underlying106 info_Case rfl (by decide) xs.length rfl rfl rfl rfl (by omega) (by unfold maxLen; omega) (z_Case) ?_; intro w1 hown hbel hsz))
  rw [← toTo_zero Case.c] at hown
  have hown := Asd.mk hown
  go_loopw [4] (fun i wr => ∃ k : Nat, k ≤ xs.length ∧ i = .int .i64 k ∧ (∃ F, own wr (.l 112 2 xs.length (toTo Case.c (Case.c zCase) xs k)) (.slice (some ⟨w.heap.size, 0, none⟩) xs.length xs.length) F ∧ F.Nodup ∧ ∀ k ∈ F, w.heap.size ≤ k) ∧ Below w.heap.size w wr) (fun i _ => xs.length - (intOf i).toNat)
  case atStart => exact ⟨0, by omega, rfl, ⟨_, hown.out, by simp, by simp⟩, hbel⟩
  case round =>
    obtain ⟨k, hk, rfl, ⟨F, ho, hF, hFl⟩, hbr⟩ := hrel
    have ho := Asd.mk ho
    by_cases hlt : k < xs.length
    · obtain ⟨a, c', he, k0, k1, hr⟩ := Case.elem (h.out.below hbr) hlt
      cases he
      have hr := Asd.mk hr
      have hFl := Asd.mk hFl
      have hbk : xs[k].bk ≤ 1048576 := by have := sumTo_le Case.bk xs k hlt; unfold Case.bs bsOf at hz; omega
      go_wp2_with (first | (go_at_call 113; refine (toCase_calls xs[k] _ hr.out hbk).mono ?_; rintro e w1 ⟨us, rfl, ⟨F2, o2, n2, l2⟩, hb1⟩; have q2 := Asd.mk o2; obtain ⟨rfl, _⟩ := Case.oopen o2; have ho1 := own.below ho.out hb1; obtain ⟨u0, hu0, hf0⟩ := own_at ho1 (j := k * 2) (by rw [toTo_length (enc := Case.c) (zt := Case.c zCase) (sz := 2) (fun _ => rfl) rfl xs hk]; omega); obtain ⟨u1, hu1, hf1⟩ := own_at ho1 (j := k * 2 + 1) (by rw [toTo_length (enc := Case.c) (zt := Case.c zCase) (sz := 2) (fun _ => rfl) rfl xs hk]; omega); have ho1 := Asd.mk ho1; have l2 := Asd.mk l2; have HB := Asd.mk (below_st hbr hb1); clear hb1 o2))
      have hg : w.heap.size ∉ F2 := by intro hk; have h1 := l2.out _ hk; have h2 := own.lt ho.out w.heap.size (by obtain ⟨g_, c_, e_, hg_, _⟩ := own_form ho.out (by omega); cases e_; exact hg_); omega
      obtain ⟨F3, r1, r2, r3⟩ := own_stores (j := k * 2) ho1.out (by rw [toTo_length (enc := Case.c) (zt := Case.c zCase) (sz := 2) (fun _ => rfl) rfl xs hk]; show k * 2 + 2 ≤ xs.length * 2; omega) q2.out (by assumption)
      rw [toTo_succ (enc := Case.c) (zt := Case.c zCase) (sz := 2) (fun _ => rfl) rfl xs hlt] at r1
      simp only [setCells, Nat.add_assoc, Nat.reduceAdd] at r1
      have r1 := Asd.mk r1
      go_roundw
      case rel => exact ⟨k + 1, by omega, by go_num, ⟨F3, r1.out, r3 hF n2 (fun k hk hk' => by have h1 := l2.out k hk; have h2 := ho.out.lt k hk'; omega), fun k hk => (r2 k hk).elim (hFl.out k) (fun h => by have h1 := l2.out k h; have h2 := hbr.size; omega)⟩, by repeat (first | (with_reducible exact HB.out) | ((with_reducible refine Below.setCell ?_ ?_ _); rotate_left; (next => first | (simp; done) | (simp; omega))))⟩
      case measure => simp [intOf]; omega
    · obtain rfl : k = xs.length := by omega
      rw [toTo_end] at ho
      have ho := Asd.mk ho.out
      go_wp2
      go_ret
      exact ⟨_, rfl, ⟨F, ho.out, hF, hFl⟩, hbr⟩
set_option maxRecDepth 100000 in
set_option maxHeartbeats 1000000 in
theorem toStep_calls {tCase : Nat} (x : Step) (w : World) {vs : List Value} (h : reps w (x.c tCase) vs) (hz : x.bk ≤ 1048576) :
    Calls Try.prog 100 #[.agg vs.toArray] w (MadeA w (x.c 112)) := by
  obtain ⟨v0, v2, rfl, h0, h2⟩ := Step.ropen h
  obtain ⟨A0, c0, rfl, _, _⟩ := rep_len h0
  replace h0 := Asd.mk h0
  obtain ⟨A2, c2, rfl, _, _⟩ := rep_len h2
  replace h2 := Asd.mk h2
  clear h
  unfold Step.bk at hz
  have HB := Asd.mk (Below.refl w.heap.size w)
  go_enter Try.func100, Try.ntmps100
  go_wp2_with fail
  refine (toStringS_calls x.Asks _ _ (h0.out.below (by repeat (first | (with_reducible exact Below.refl _ _) | (with_reducible exact HB.out) | (with_reducible refine below_al ?_ _) | ((with_reducible refine Below.setCell ?_ ?_ _); rotate_left; (next => first | (simp; done) | (simp; omega)))))) (by unfold bkS bsOf at hz; omega)).mono ?_
  rintro e w1 ⟨v0, rfl, ⟨F0, o0, n0, l0⟩, hb1⟩
  obtain ⟨B0, b0, rfl, _, _⟩ := own_slice o0
  replace o0 := Asd.mk o0
  replace l0 := Asd.mk l0
  have u0 := Asd.mk o0.out.lt
  replace HB := Asd.mk (show Below w.heap.size w w1 from below_st (by repeat (first | (with_reducible exact Below.refl _ _) | (with_reducible exact HB.out) | (with_reducible refine below_al ?_ _) | ((with_reducible refine Below.setCell ?_ ?_ _); rotate_left; (next => first | (simp; done) | (simp; omega))))) hb1)
  obtain ⟨hcx, hfx⟩ := bcell hb1
  have hzz : w.heap.size + 1 + 1 < w1.heap.size := by have := hb1.size; (try simp at this); omega
  have hz0 : w.heap.size < w1.heap.size := by omega
  have hz1 : w.heap.size + 1 < w1.heap.size := by omega
  clear hb1
  go_wp2_with fail
  refine (toCaseS_calls x.Cases _ _ (h2.out.below (by repeat (first | (with_reducible exact Below.refl _ _) | (with_reducible exact HB.out) | (with_reducible refine below_al ?_ _) | ((with_reducible refine Below.setCell ?_ ?_ _); rotate_left; (next => first | (simp; done) | (simp; omega)))))) (by omega)).mono ?_
  rintro e w1 ⟨v2, rfl, ⟨F2, o2, n2, l2⟩, hb1⟩
  replace o0 := Asd.mk (own.below (t := strsT 9 x.Asks) (v := .slice B0 x.Asks.length b0) (F := F0) (by repeat (first | (with_reducible exact o0.out) | ((with_reducible refine own.set ?_ (fun hk_ => ?_) _); rotate_left; (next => have hk_ := l0.out _ hk_; simp at hk_; omega)) | (with_reducible refine own.alloc ?_ _))) hb1)
  obtain ⟨B2, b2, rfl, _, _⟩ := own_slice o2
  replace o2 := Asd.mk o2
  replace l2 := Asd.mk l2
  have u2 := Asd.mk o2.out.lt
  replace HB := Asd.mk (show Below w.heap.size w w1 from below_st (by repeat (first | (with_reducible exact Below.refl _ _) | (with_reducible exact HB.out) | (with_reducible refine below_al ?_ _) | ((with_reducible refine Below.setCell ?_ ?_ _); rotate_left; (next => first | (simp; done) | (simp; omega))))) hb1)
  obtain ⟨hcx, hfx⟩ := bcell hb1
  have hzz : w.heap.size + 1 + 1 < w1.heap.size := by have := hb1.size; (try simp at this); omega
  have hz0 : w.heap.size < w1.heap.size := by omega
  have hz1 : w.heap.size + 1 < w1.heap.size := by omega
  clear hb1
  go_wp2
  refine bodyPost_ret (v := .agg #[.slice B0 x.Asks.length b0, .int .i64 x.On, .slice B2 x.Cases.length b2, .int .i64 x.Else, .int .i64 x.Fall, .bool x.End, .bool x.Bad, .string x.Give]) (by simp [results, Try.results100, go_sem, *]) rfl ?_
  exact ⟨_, rfl, ⟨_, Step.omk x (by repeat (first | (with_reducible exact o0.out) | ((with_reducible refine own.set ?_ (fun hk_ => ?_) _); rotate_left; (next => have hk_ := l0.out _ hk_; simp at hk_; omega)) | (with_reducible refine own.alloc ?_ _))) (by repeat (first | (with_reducible exact o2.out) | ((with_reducible refine own.set ?_ (fun hk_ => ?_) _); rotate_left; (next => have hk_ := l2.out _ hk_; simp at hk_; omega)) | (with_reducible refine own.alloc ?_ _))), nod2 n0 n2 (fun a ha hb => by have h1 := u0.out a ha; have h2 := l2.out a hb; simp at h2; omega), mem2 (fun k hk => by have := l0.out k hk; simp at this; omega) (fun k hk => by have := l2.out k hk; have := hzz; (try simp at *); omega)⟩, by repeat (first | (with_reducible exact Below.refl _ _) | (with_reducible exact HB.out) | (with_reducible refine below_al ?_ _) | ((with_reducible refine Below.setCell ?_ ?_ _); rotate_left; (next => first | (simp; done) | (simp; omega))))⟩
set_option maxRecDepth 100000 in
set_option maxHeartbeats 1000000 in
theorem toStepS_calls {tStep tCase : Nat} (xs : List Step) (v : Value) (w : World) (h : rep w (StepsT tStep tCase xs) v) (hz : Step.bs xs ≤ 1048576) :
    Calls Try.prog 81 #[v] w (MadeV w (StepsT 108 112 xs)) := by
  obtain ⟨A, c, rfl, hc, hn⟩ := rep_len h
  have h := Asd.mk h
  have hln : xs.length ≤ 1048576 := by unfold Step.bs bsOf at hz; omega
  go_enter Try.func81, Try.ntmps81
  go_wp2_with (first | (at_make; refine mk rfl rfl Try.underlying42 info_Step rfl (by decide) xs.length rfl rfl rfl rfl (by omega) (by unfold maxLen; omega) (z_Step (tCase := 112)) ?_; intro w1 hown hbel hsz))
  rw [← toTo_zero (Step.c 112)] at hown
  have hown := Asd.mk hown
  go_loopw [4] (fun i wr => ∃ k : Nat, k ≤ xs.length ∧ i = .int .i64 k ∧ (∃ F, own wr (.l 108 8 xs.length (toTo (Step.c 112) ((Step.c 112) zStep) xs k)) (.slice (some ⟨w.heap.size, 0, none⟩) xs.length xs.length) F ∧ F.Nodup ∧ ∀ k ∈ F, w.heap.size ≤ k) ∧ Below w.heap.size w wr) (fun i _ => xs.length - (intOf i).toNat)
  case atStart => exact ⟨0, by omega, rfl, ⟨_, hown.out, by simp, by simp⟩, hbel⟩
  case round =>
    obtain ⟨k, hk, rfl, ⟨F, ho, hF, hFl⟩, hbr⟩ := hrel
    have ho := Asd.mk ho
    by_cases hlt : k < xs.length
    · obtain ⟨a, c', v0, v2, he, k0, k1, k2, k3, k4, k5, k6, k7, h0, h2, hr⟩ := Step.elem (h.out.below hbr) hlt
      cases he
      obtain ⟨B0, b0, rfl, _, _⟩ := rep_len h0
      obtain ⟨B2, b2, rfl, _, _⟩ := rep_len h2
      clear h0 h2
      have hr := Asd.mk hr
      have hFl := Asd.mk hFl
      have hbk : xs[k].bk ≤ 1048576 := by have := sumTo_le Step.bk xs k hlt; unfold Step.bs bsOf at hz; omega
      go_wp2_with (first | (go_at_call 100; refine (toStep_calls xs[k] _ hr.out hbk).mono ?_; rintro e w1 ⟨us, rfl, ⟨F2, o2, n2, l2⟩, hb1⟩; have q2 := Asd.mk o2; obtain ⟨w0, G0, w2, G2, rfl, p0, p2, _⟩ := Step.oopen o2; obtain ⟨D0, d0, rfl, _, _⟩ := own_slice p0; obtain ⟨D2, d2, rfl, _, _⟩ := own_slice p2; clear p0 p2; have ho1 := own.below ho.out hb1; obtain ⟨u0, hu0, hf0⟩ := own_at ho1 (j := k * 8) (by rw [toTo_length (enc := (Step.c 112)) (zt := (Step.c 112) zStep) (sz := 8) (fun _ => rfl) rfl xs hk]; omega); obtain ⟨u1, hu1, hf1⟩ := own_at ho1 (j := k * 8 + 1) (by rw [toTo_length (enc := (Step.c 112)) (zt := (Step.c 112) zStep) (sz := 8) (fun _ => rfl) rfl xs hk]; omega); obtain ⟨u2, hu2, hf2⟩ := own_at ho1 (j := k * 8 + 2) (by rw [toTo_length (enc := (Step.c 112)) (zt := (Step.c 112) zStep) (sz := 8) (fun _ => rfl) rfl xs hk]; omega); obtain ⟨u3, hu3, hf3⟩ := own_at ho1 (j := k * 8 + 3) (by rw [toTo_length (enc := (Step.c 112)) (zt := (Step.c 112) zStep) (sz := 8) (fun _ => rfl) rfl xs hk]; omega); obtain ⟨u4, hu4, hf4⟩ := own_at ho1 (j := k * 8 + 4) (by rw [toTo_length (enc := (Step.c 112)) (zt := (Step.c 112) zStep) (sz := 8) (fun _ => rfl) rfl xs hk]; omega); obtain ⟨u5, hu5, hf5⟩ := own_at ho1 (j := k * 8 + 5) (by rw [toTo_length (enc := (Step.c 112)) (zt := (Step.c 112) zStep) (sz := 8) (fun _ => rfl) rfl xs hk]; omega); obtain ⟨u6, hu6, hf6⟩ := own_at ho1 (j := k * 8 + 6) (by rw [toTo_length (enc := (Step.c 112)) (zt := (Step.c 112) zStep) (sz := 8) (fun _ => rfl) rfl xs hk]; omega); obtain ⟨u7, hu7, hf7⟩ := own_at ho1 (j := k * 8 + 7) (by rw [toTo_length (enc := (Step.c 112)) (zt := (Step.c 112) zStep) (sz := 8) (fun _ => rfl) rfl xs hk]; omega); have ho1 := Asd.mk ho1; have l2 := Asd.mk l2; have HB := Asd.mk (below_st hbr hb1); clear hb1 o2))
      have hg : w.heap.size ∉ F2 := by intro hk; have h1 := l2.out _ hk; have h2 := own.lt ho.out w.heap.size (by obtain ⟨g_, c_, e_, hg_, _⟩ := own_form ho.out (by omega); cases e_; exact hg_); omega
      obtain ⟨F3, r1, r2, r3⟩ := own_stores (j := k * 8) ho1.out (by rw [toTo_length (enc := (Step.c 112)) (zt := (Step.c 112) zStep) (sz := 8) (fun _ => rfl) rfl xs hk]; show k * 8 + 8 ≤ xs.length * 8; omega) q2.out (by assumption)
      rw [toTo_succ (enc := (Step.c 112)) (zt := (Step.c 112) zStep) (sz := 8) (fun _ => rfl) rfl xs hlt] at r1
      simp only [setCells, Nat.add_assoc, Nat.reduceAdd] at r1
      have r1 := Asd.mk r1
      go_roundw
      case rel => exact ⟨k + 1, by omega, by go_num, ⟨F3, r1.out, r3 hF n2 (fun k hk hk' => by have h1 := l2.out k hk; have h2 := ho.out.lt k hk'; omega), fun k hk => (r2 k hk).elim (hFl.out k) (fun h => by have h1 := l2.out k h; have h2 := hbr.size; omega)⟩, by repeat (first | (with_reducible exact HB.out) | ((with_reducible refine Below.setCell ?_ ?_ _); rotate_left; (next => first | (simp; done) | (simp; omega))))⟩
      case measure => simp [intOf]; omega
    · obtain rfl : k = xs.length := by omega
      rw [toTo_end] at ho
      have ho := Asd.mk ho.out
      go_wp2
      go_ret
      exact ⟨_, rfl, ⟨F, ho.out, hF, hFl⟩, hbr⟩
set_option maxRecDepth 100000 in
set_option maxHeartbeats 1000000 in
theorem toAction_calls {tStep tCase : Nat} (x : Action) (w : World) {vs : List Value} (h : reps w (x.c tStep tCase) vs) (hz : x.bk ≤ 1048576) :
    Calls Try.prog 47 #[.agg vs.toArray] w (MadeA w (x.c 108 112)) := by
  obtain ⟨v1, rfl, h1⟩ := Action.ropen h
  obtain ⟨A1, c1, rfl, _, _⟩ := rep_len h1
  replace h1 := Asd.mk h1
  clear h
  unfold Action.bk at hz
  have HB := Asd.mk (Below.refl w.heap.size w)
  go_enter Try.func47, Try.ntmps47
  go_wp2_with fail
  refine (toStepS_calls x.Steps _ _ (h1.out.below (by repeat (first | (with_reducible exact Below.refl _ _) | (with_reducible exact HB.out) | (with_reducible refine below_al ?_ _) | ((with_reducible refine Below.setCell ?_ ?_ _); rotate_left; (next => first | (simp; done) | (simp; omega)))))) (by omega)).mono ?_
  rintro e w1 ⟨v1, rfl, ⟨F1, o1, n1, l1⟩, hb1⟩
  obtain ⟨B1, b1, rfl, _, _⟩ := own_slice o1
  replace o1 := Asd.mk o1
  replace l1 := Asd.mk l1
  have u1 := Asd.mk o1.out.lt
  replace HB := Asd.mk (show Below w.heap.size w w1 from below_st (by repeat (first | (with_reducible exact Below.refl _ _) | (with_reducible exact HB.out) | (with_reducible refine below_al ?_ _) | ((with_reducible refine Below.setCell ?_ ?_ _); rotate_left; (next => first | (simp; done) | (simp; omega))))) hb1)
  obtain ⟨hcx, hfx⟩ := bcell hb1
  have hzz : w.heap.size + 1 + 1 < w1.heap.size := by have := hb1.size; (try simp at this); omega
  have hz0 : w.heap.size < w1.heap.size := by omega
  have hz1 : w.heap.size + 1 < w1.heap.size := by omega
  clear hb1
  go_wp2
  refine bodyPost_ret (v := .agg #[.int .i64 x.Cost, .slice B1 x.Steps.length b1]) (by simp [results, Try.results47, go_sem, *]) rfl ?_
  exact ⟨_, rfl, ⟨_, Action.omk x (by repeat (first | (with_reducible exact o1.out) | ((with_reducible refine own.set ?_ (fun hk_ => ?_) _); rotate_left; (next => have hk_ := l1.out _ hk_; simp at hk_; omega)) | (with_reducible refine own.alloc ?_ _))), n1, fun k hk => by have := l1.out k hk; simp at this; omega⟩, by repeat (first | (with_reducible exact Below.refl _ _) | (with_reducible exact HB.out) | (with_reducible refine below_al ?_ _) | ((with_reducible refine Below.setCell ?_ ?_ _); rotate_left; (next => first | (simp; done) | (simp; omega))))⟩
end Go.Proofs.Ytmjfkjdfmpileaa.M
