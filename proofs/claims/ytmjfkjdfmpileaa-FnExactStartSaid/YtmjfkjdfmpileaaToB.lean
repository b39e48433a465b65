/- Contracts: the laws' own copies. -/
import Derived.Test.YtmjfkjdfmpileaaInfB
import Derived.Test.YtmjfkjdfmpileaaToA
import Derived.Test.YtmjfkjdfmpileaaSzB
set_option linter.unusedVariables false
set_option linter.unusedSimpArgs false
namespace Go.Proofs.Ytmjfkjdfmpileaa.M
open Go.RowKit

set_option maxRecDepth 100000 in
set_option maxHeartbeats 1000000 in
theorem toNode_calls {tStep tCase : Nat} (x : Node) (w : World) {vs : List Value} (h : reps w (x.c tStep tCase) vs) (hz : x.bk ≤ 1048576) :
    Calls Try.prog 16 #[.agg vs.toArray] w (MadeA w (x.c 108 112)) := by
  obtain ⟨v2, rfl, h2⟩ := Node.ropen h
  obtain ⟨A2, c2, rfl, _, _⟩ := rep_len h2
  replace h2 := Asd.mk h2
  clear h
  unfold Node.bk at hz
  have HB := Asd.mk (Below.refl w.heap.size w)
  go_enter Try.func16, Try.ntmps16
  go_wp2_with fail
  refine (toAction_calls x.Action _ (Action.rmk x.Action (h2.out.below (by repeat (first | (with_reducible exact Below.refl _ _) | (with_reducible exact HB.out) | (with_reducible refine below_al ?_ _) | ((with_reducible refine Below.setCell ?_ ?_ _); rotate_left; (next => first | (simp; done) | (simp; omega))))))) (by omega)).mono ?_
  rintro e w1 ⟨us, rfl, ⟨F2, o2, n2, l2⟩, hb1⟩
  obtain ⟨v2, F2, rfl, o2, rfl⟩ := Action.oopen o2
  obtain ⟨B2, b2, rfl, _, _⟩ := own_slice o2
  replace o2 := Asd.mk o2
  replace l2 := Asd.mk l2
  have u2 := Asd.mk o2.out.lt
  replace HB := Asd.mk (show Below w.heap.size w w1 from below_st (by repeat (first | (with_reducible exact Below.refl _ _) | (with_reducible exact HB.out) | (with_reducible refine below_al ?_ _) | ((with_reducible refine Below.setCell ?_ ?_ _); rotate_left; (next => first | (simp; done) | (simp; omega))))) hb1)
  obtain ⟨hcx, hfx⟩ := bcell hb1
  have hzz : w.heap.size + 1 + 1 < w1.heap.size := by have := hb1.size; (try simp at this); omega
  have hz0 : w.heap.size < w1.heap.size := by omega
  have hz1 : w.heap.size + 1 < w1.heap.size := by omega
  clear hb1
  go_wp2
  refine bodyPost_ret (v := .agg #[.string x.Name, .int .i64 x.Action.Cost, .slice B2 x.Action.Steps.length b2]) (by simp [results, Try.results16, go_sem, *]) rfl ?_
  exact ⟨_, rfl, ⟨_, Node.omk x (by repeat (first | (with_reducible exact o2.out) | ((with_reducible refine own.set ?_ (fun hk_ => ?_) _); rotate_left; (next => have hk_ := l2.out _ hk_; simp at hk_; omega)) | (with_reducible refine own.alloc ?_ _))), n2, fun k hk => by have := l2.out k hk; simp at this; omega⟩, by repeat (first | (with_reducible exact Below.refl _ _) | (with_reducible exact HB.out) | (with_reducible refine below_al ?_ _) | ((with_reducible refine Below.setCell ?_ ?_ _); rotate_left; (next => first | (simp; done) | (simp; omega))))⟩
set_option maxRecDepth 100000 in
set_option maxHeartbeats 1000000 in
theorem toNodeS_calls {tNode tStep tCase : Nat} (xs : List Node) (v : Value) (w : World) (h : rep w (NodesT tNode tStep tCase xs) v) (hz : Node.bs xs ≤ 1048576) :
    Calls Try.prog 37 #[v] w (MadeV w (NodesT 46 108 112 xs)) := by
  obtain ⟨A, c, rfl, hc, hn⟩ := rep_len h
  have h := Asd.mk h
  have hln : xs.length ≤ 1048576 := by unfold Node.bs bsOf at hz; omega
  go_enter Try.func37, Try.ntmps37
  go_wp2_with (first | (at_make; refine mk rfl rfl Try.underlying26 info_Node rfl (by decide) xs.length rfl rfl rfl rfl (by omega) (by unfold maxLen; omega) (z_Node (tStep := 108) (tCase := 112)) ?_; intro w1 hown hbel hsz))
  rw [← toTo_zero (Node.c 108 112)] at hown
  have hown := Asd.mk hown
  go_loopw [4] (fun i wr => ∃ k : Nat, k ≤ xs.length ∧ i = .int .i64 k ∧ (∃ F, own wr (.l 46 3 xs.length (toTo (Node.c 108 112) ((Node.c 108 112) zNode) xs k)) (.slice (some ⟨w.heap.size, 0, none⟩) xs.length xs.length) F ∧ F.Nodup ∧ ∀ k ∈ F, w.heap.size ≤ k) ∧ Below w.heap.size w wr) (fun i _ => xs.length - (intOf i).toNat)
  case atStart => exact ⟨0, by omega, rfl, ⟨_, hown.out, by simp, by simp⟩, hbel⟩
  case round =>
    obtain ⟨k, hk, rfl, ⟨F, ho, hF, hFl⟩, hbr⟩ := hrel
    have ho := Asd.mk ho
    by_cases hlt : k < xs.length
    · obtain ⟨a, c', v2, he, k0, k1, k2, h2, hr⟩ := Node.elem (h.out.below hbr) hlt
      cases he
      obtain ⟨B2, b2, rfl, _, _⟩ := rep_len h2
      clear h2
      have hr := Asd.mk hr
      have hFl := Asd.mk hFl
      have hbk : xs[k].bk ≤ 1048576 := by have := sumTo_le Node.bk xs k hlt; unfold Node.bs bsOf at hz; omega
      go_wp2_with (first | (go_at_call 16; refine (toNode_calls xs[k] _ hr.out hbk).mono ?_; rintro e w1 ⟨us, rfl, ⟨F2, o2, n2, l2⟩, hb1⟩; have q2 := Asd.mk o2; obtain ⟨w2, G2, rfl, p2, _⟩ := Node.oopen o2; obtain ⟨D2, d2, rfl, _, _⟩ := own_slice p2; clear p2; have ho1 := own.below ho.out hb1; obtain ⟨u0, hu0, hf0⟩ := own_at ho1 (j := k * 3) (by rw [toTo_length (enc := (Node.c 108 112)) (zt := (Node.c 108 112) zNode) (sz := 3) (fun _ => rfl) rfl xs hk]; omega); obtain ⟨u1, hu1, hf1⟩ := own_at ho1 (j := k * 3 + 1) (by rw [toTo_length (enc := (Node.c 108 112)) (zt := (Node.c 108 112) zNode) (sz := 3) (fun _ => rfl) rfl xs hk]; omega); obtain ⟨u2, hu2, hf2⟩ := own_at ho1 (j := k * 3 + 2) (by rw [toTo_length (enc := (Node.c 108 112)) (zt := (Node.c 108 112) zNode) (sz := 3) (fun _ => rfl) rfl xs hk]; omega); have ho1 := Asd.mk ho1; have l2 := Asd.mk l2; have HB := Asd.mk (below_st hbr hb1); clear hb1 o2))
      have hg : w.heap.size ∉ F2 := by intro hk; have h1 := l2.out _ hk; have h2 := own.lt ho.out w.heap.size (by obtain ⟨g_, c_, e_, hg_, _⟩ := own_form ho.out (by omega); cases e_; exact hg_); omega
      obtain ⟨F3, r1, r2, r3⟩ := own_stores (j := k * 3) ho1.out (by rw [toTo_length (enc := (Node.c 108 112)) (zt := (Node.c 108 112) zNode) (sz := 3) (fun _ => rfl) rfl xs hk]; show k * 3 + 3 ≤ xs.length * 3; omega) q2.out (by assumption)
      rw [toTo_succ (enc := (Node.c 108 112)) (zt := (Node.c 108 112) zNode) (sz := 3) (fun _ => rfl) rfl xs hlt] at r1
      simp only [setCells, Nat.add_assoc, Nat.reduceAdd] at r1
      have r1 := Asd.mk r1
      go_roundw
      case rel => exact ⟨k + 1, by omega, by go_num, ⟨F3, r1.out, r3 hF n2 (fun k hk hk' => by have h1 := l2.out k hk; have h2 := ho.out.lt k hk'; omega), fun k hk => (r2 k hk).elim (hFl.out k) (fun h => by have h1 := l2.out k h; have h2 := hbr.size; omega)⟩, by repeat (first | (with_reducible exact HB.out) | ((with_reducible refine Below.setCell ?_ ?_ _); rotate_left; (next => first | (simp; done) | (simp; omega))))⟩
      case measure => simp [intOf]; omega
    · obtain rfl : k = xs.length := by omega
      rw [toTo_end] at ho
      have ho := Asd.mk ho.out
      go_wp2
      go_ret
      exact ⟨_, rfl, ⟨F, ho.out, hF, hFl⟩, hbr⟩
set_option maxRecDepth 100000 in
set_option maxHeartbeats 1000000 in
theorem toWeb_calls {tNode tStep tCase : Nat} (x : Web) (w : World) {vs : List Value} (h : reps w (x.c tNode tStep tCase) vs) (hz : x.bk ≤ 1048576) :
    Calls Try.prog 9 #[.agg vs.toArray] w (MadeA w (x.c 46 108 112)) := by
  obtain ⟨v0, rfl, h0⟩ := Web.ropen h
  obtain ⟨A0, c0, rfl, _, _⟩ := rep_len h0
  replace h0 := Asd.mk h0
  clear h
  unfold Web.bk at hz
  have HB := Asd.mk (Below.refl w.heap.size w)
  go_enter Try.func9, Try.ntmps9
  go_wp2_with fail
  refine (toNodeS_calls x.Nodes _ _ (h0.out.below (by repeat (first | (with_reducible exact Below.refl _ _) | (with_reducible exact HB.out) | (with_reducible refine below_al ?_ _) | ((with_reducible refine Below.setCell ?_ ?_ _); rotate_left; (next => first | (simp; done) | (simp; omega)))))) (by omega)).mono ?_
  rintro e w1 ⟨v0, rfl, ⟨F0, o0, n0, l0⟩, hb1⟩
  obtain ⟨B0, b0, rfl, _, _⟩ := own_slice o0
  replace o0 := Asd.mk o0
  replace l0 := Asd.mk l0
  have u0 := Asd.mk o0.out.lt
  replace HB := Asd.mk (show Below w.heap.size w w1 from below_st (by repeat (first | (with_reducible exact Below.refl _ _) | (with_reducible exact HB.out) | (with_reducible refine below_al ?_ _) | ((with_reducible refine Below.setCell ?_ ?_ _); rotate_left; (next => first | (simp; done) | (simp; omega))))) hb1)
  obtain ⟨hcx, hfx⟩ := bcell hb1
  have hzz : w.heap.size + 1 + 1 < w1.heap.size := by have := hb1.size; (try simp at this); omega
  have hz0 : w.heap.size < w1.heap.size := by omega
  have hz1 : w.heap.size + 1 < w1.heap.size := by omega
  clear hb1
  go_wp2
  refine bodyPost_ret (v := .agg #[.slice B0 x.Nodes.length b0]) (by simp [results, Try.results9, go_sem, *]) rfl ?_
  exact ⟨_, rfl, ⟨_, Web.omk x (by repeat (first | (with_reducible exact o0.out) | ((with_reducible refine own.set ?_ (fun hk_ => ?_) _); rotate_left; (next => have hk_ := l0.out _ hk_; simp at hk_; omega)) | (with_reducible refine own.alloc ?_ _))), n0, fun k hk => by have := l0.out k hk; simp at this; omega⟩, by repeat (first | (with_reducible exact Below.refl _ _) | (with_reducible exact HB.out) | (with_reducible refine below_al ?_ _) | ((with_reducible refine Below.setCell ?_ ?_ _); rotate_left; (next => first | (simp; done) | (simp; omega))))⟩
end Go.Proofs.Ytmjfkjdfmpileaa.M
