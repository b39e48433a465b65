/- Contracts: the laws' own copies. -/
import Derived.Test.YtmjfkjdfmpileaaInfS
import Derived.Test.YtmjfkjdfmpileaaSzS
set_option linter.unusedVariables false
set_option linter.unusedSimpArgs false
namespace Go.Proofs.Ytmjfkjdfmpileaa.M
open Go.RowKit

theorem clast {α : Type} {A B : α} (h : A = B) : B = A := h.symm
set_option maxRecDepth 100000 in
set_option maxHeartbeats 2000000 in
theorem toStringS_calls {t : Nat} (xs : List ByteArray) (v : Value) (w : World) (h : rep w (strsT t xs) v) (hz : xs.length ≤ 1048576) :
    Calls Try.prog 25 #[v] w (MadeV w (strsT 9 xs)) := by
  obtain ⟨A, c, rfl, hc, hn⟩ := rep_len h
  have h := Asd.mk h
  go_enter Try.func25, Try.ntmps25
  go_wp2_with (first | (at_make; refine mk rfl rfl Try.underlying56 info_str rfl (by decide) xs.length rfl rfl rfl rfl (by omega) (by unfold maxLen; omega) zstr ?_; intro w1 hown hbel hsz))
  rw [← toTo_zero strC] at hown
  have hown := Asd.mk hown
  go_loopw [4] (fun i wr => ∃ k : Nat, k ≤ xs.length ∧ i = .int .i64 k ∧ (∃ F, own wr (.l 9 1 xs.length (toTo strC (strC ⟨#[]⟩) xs k)) (.slice (some ⟨w.heap.size, 0, none⟩) xs.length xs.length) F ∧ F.Nodup ∧ ∀ k ∈ F, w.heap.size ≤ k) ∧ Below w.heap.size w wr) (fun i _ => xs.length - (intOf i).toNat)
  case atStart => exact ⟨0, by omega, rfl, ⟨_, hown.out, by simp, by simp⟩, hbel⟩
  case round =>
    obtain ⟨k, hk, rfl, ⟨F, ho, hF, hFl⟩, hbr⟩ := hrel
    have ho := Asd.mk ho
    by_cases hlt : k < xs.length
    · obtain ⟨a, c', he, hcell⟩ := str_elem (h.out.below hbr) hlt
      cases he
      obtain ⟨u, hu, hfr⟩ := own_at ho.out (j := k) (by rw [toTo_length (enc := strC) (sz := 1) (fun _ => rfl) rfl xs hk]; omega)
      go_wp2
      obtain ⟨F2, r1, r2, r3⟩ := own_stores (us := [.string xs[k]]) (ts := strC xs[k]) (j := k * 1) (F' := []) ho.out (by rw [toTo_length (enc := strC) (sz := 1) (fun _ => rfl) rfl xs hk]; simp [strC]; omega) (strC_own _ _) (by simp)
      rw [toTo_succ (enc := strC) (sz := 1) (fun _ => rfl) rfl xs hlt, Nat.mul_one] at r1
      have r1 := Asd.mk r1
      go_roundw
      case rel => exact ⟨k + 1, by omega, by go_num, ⟨F2, r1.out, r3 hF (by simp) (by simp), fun k hk => (r2 k hk).elim (hFl k) (fun h => by cases h)⟩, hbr.setCell (by simp) _⟩
      case measure => simp [intOf]; omega
    · obtain rfl : k = xs.length := by omega
      rw [toTo_end] at ho
      have ho := Asd.mk ho.out
      go_wp2
      go_ret
      exact ⟨_, rfl, ⟨F, ho.out, hF, hFl⟩, hbr⟩
end Go.Proofs.Ytmjfkjdfmpileaa.M
