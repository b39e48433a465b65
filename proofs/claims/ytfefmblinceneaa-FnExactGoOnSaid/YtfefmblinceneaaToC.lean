/- Contracts: the laws' own copies. -/
import Derived.Test.YtfefmblinceneaaInfC
import Derived.Test.YtfefmblinceneaaToA
import Derived.Test.YtfefmblinceneaaSzC
set_option linter.unusedVariables false
set_option linter.unusedSimpArgs false
namespace Go.Proofs.Ytfefmblinceneaa.M
open Go.RowKit

set_option maxRecDepth 100000 in
set_option maxHeartbeats 1000000 in
theorem toAnswer_calls (x : Answer) (w : World) {vs : List Value} (h : reps w (x.c) vs) (hz : x.bk ≤ 1048576) :
    Calls Try.prog 36 #[.agg vs.toArray] w (MadeA w (x.c)) := by
  obtain rfl := Answer.ropen h
  clear h
  unfold Answer.bk at hz
  have HB := Asd.mk (Below.refl w.heap.size w)
  go_enter Try.func36, Try.ntmps36
  go_wp2
  refine bodyPost_ret (v := .agg #[.bool x.Fail, .string x.Text]) (by simp [results, Try.results36, go_sem, *]) rfl ?_
  exact ⟨_, rfl, ⟨[], Answer.omk x, by simp, by simp⟩, by repeat (first | (with_reducible exact Below.refl _ _) | (with_reducible exact HB.out) | (with_reducible refine below_al ?_ _) | ((with_reducible refine Below.setCell ?_ ?_ _); rotate_left; (next => first | (simp; done) | (simp; omega))))⟩
set_option maxRecDepth 100000 in
set_option maxHeartbeats 1000000 in
theorem toAnswerS_calls {tAnswer : Nat} (xs : List Answer) (v : Value) (w : World) (h : rep w (AnswersT tAnswer xs) v) (hz : Answer.bs xs ≤ 1048576) :
    Calls Try.prog 19 #[v] w (MadeV w (AnswersT 73 xs)) := by
  obtain ⟨A, c, rfl, hc, hn⟩ := rep_len h
  have h := Asd.mk h
  have hln : xs.length ≤ 1048576 := by unfold Answer.bs bsOf at hz; omega
  go_enter Try.func19, Try.ntmps19
  go_wp2_with (first | (at_make; refine mk rfl rfl Try.underlying50 info_Answer rfl (by decide) xs.length rfl rfl rfl rfl (by omega) (by unfold maxLen; omega) (z_Answer) ?_; intro w1 hown hbel hsz))
  rw [← toTo_zero Answer.c] at hown
  have hown := Asd.mk hown
  go_loopw [4] (fun i wr => ∃ k : Nat, k ≤ xs.length ∧ i = .int .i64 k ∧ (∃ F, own wr (.l 73 2 xs.length (toTo Answer.c (Answer.c zAnswer) xs k)) (.slice (some ⟨w.heap.size, 0, none⟩) xs.length xs.length) F ∧ F.Nodup ∧ ∀ k ∈ F, w.heap.size ≤ k) ∧ Below w.heap.size w wr) (fun i _ => xs.length - (intOf i).toNat)
  case atStart => exact ⟨0, by omega, rfl, ⟨_, hown.out, by simp, by simp⟩, hbel⟩
  case round =>
    obtain ⟨k, hk, rfl, ⟨F, ho, hF, hFl⟩, hbr⟩ := hrel
    have ho := Asd.mk ho
    by_cases hlt : k < xs.length
    · obtain ⟨a, c', he, k0, k1, hr⟩ := Answer.elem (h.out.below hbr) hlt
      cases he
      have hr := Asd.mk hr
      have hFl := Asd.mk hFl
      have hbk : xs[k].bk ≤ 1048576 := by have := sumTo_le Answer.bk xs k hlt; unfold Answer.bs bsOf at hz; omega
      go_wp2_with (first | (go_at_call 36; refine (toAnswer_calls xs[k] _ hr.out hbk).mono ?_; rintro e w1 ⟨us, rfl, ⟨F2, o2, n2, l2⟩, hb1⟩; have q2 := Asd.mk o2; obtain ⟨rfl, _⟩ := Answer.oopen o2; have ho1 := own.below ho.out hb1; obtain ⟨u0, hu0, hf0⟩ := own_at ho1 (j := k * 2) (by rw [toTo_length (enc := Answer.c) (zt := Answer.c zAnswer) (sz := 2) (fun _ => rfl) rfl xs hk]; omega); obtain ⟨u1, hu1, hf1⟩ := own_at ho1 (j := k * 2 + 1) (by rw [toTo_length (enc := Answer.c) (zt := Answer.c zAnswer) (sz := 2) (fun _ => rfl) rfl xs hk]; omega); have ho1 := Asd.mk ho1; have l2 := Asd.mk l2; have HB := Asd.mk (below_st hbr hb1); clear hb1 o2))
      have hg : w.heap.size ∉ F2 := by intro hk; have h1 := l2.out _ hk; have h2 := own.lt ho.out w.heap.size (by obtain ⟨_, _, _, e, _⟩ := own_cell ho.out; rw [e]; simp); omega
      obtain ⟨F3, r1, r2, r3⟩ := own_stores (j := k * 2) ho1.out (by rw [toTo_length (enc := Answer.c) (zt := Answer.c zAnswer) (sz := 2) (fun _ => rfl) rfl xs hk]; show k * 2 + 2 ≤ xs.length * 2; omega) q2.out (by assumption)
      rw [toTo_succ (enc := Answer.c) (zt := Answer.c zAnswer) (sz := 2) (fun _ => rfl) rfl xs hlt] at r1
      simp only [setCells, Nat.add_assoc, Nat.reduceAdd] at r1
      have r1 := Asd.mk r1
      go_roundw
      case rel => exact ⟨k + 1, by omega, by go_num, ⟨F3, r1.out, r3 hF n2 (fun k hk hk' => by have h1 := l2.out k hk; have h2 := ho.out.lt k hk'; omega), fun k hk => (r2 k hk).elim (hFl.out k) (fun h => by have h1 := l2.out k h; have h2 := hbr.size; omega)⟩, by repeat (first | (with_reducible exact HB.out) | ((with_reducible refine Below.setCell ?_ ?_ _); rotate_left; (next => first | (simp; done) | (simp; omega))))⟩
      case measure => simp [intOf]; omega
    · obtain rfl : k = xs.length := by omega
      rw [toTo_end] at ho
      have ho := Asd.mk ho.out
      go_wp2
      go_ret
      exact ⟨_, rfl, ⟨F, ho.out, hF, hFl⟩, hbr⟩
end Go.Proofs.Ytfefmblinceneaa.M
