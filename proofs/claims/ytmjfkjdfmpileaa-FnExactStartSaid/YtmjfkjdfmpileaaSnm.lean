/- Contracts: the reference's names. -/
import Derived.Test.YtmjfkjdfmpileaaAct
set_option linter.unusedVariables false
set_option linter.unusedSimpArgs false
namespace Go.Proofs.Ytmjfkjdfmpileaa.M
open Go.RowKit

set_option maxRecDepth 100000 in
set_option maxHeartbeats 4000000 in
theorem l1Names_calls {ts : Nat} (xs : List ByteArray) (v : Value) (w : World) (h : rep w (strsT ts xs) v) :
    Calls Try.prog 86 #[v] w fun e w' => e = .returned (.bool (namesOk xs)) ∧ Below w.heap.size w w' := by
  obtain ⟨A, c, rfl, hc, hn⟩ := rep_len h
  have h := Asd.mk h
  go_enter Try.func86, Try.ntmps86
  go_wp2
  go_loopw [3] (fun i wr => ∃ k : Nat, k ≤ xs.length ∧ i = .int .i64 k ∧ nmTo xs k ∧ Below w.heap.size w wr) (fun i _ => xs.length - (intOf i).toNat)
  case atStart => exact ⟨0, by omega, rfl, nmTo_zero _, Below.refl _ _⟩
  case round =>
    obtain ⟨k, hk, rfl, hA, hbr⟩ := hrel
    by_cases hlt : k < xs.length
    · obtain ⟨a, c', he, hcell⟩ := str_elem (h.out.below hbr) hlt
      cases he
      by_cases hx : nameOk xs[k] = true
      rotate_left
      · have e1 := Hid.mk' (namesOk_not hlt (.inl (Bool.eq_false_iff.2 hx)))
        go_wp2_with (first | (go_at_call 34; refine (l1NameOk_calls _ _).mono ?_; rintro e w' ⟨rfl, rfl⟩))
        go_ret
        exact ⟨by rw [e1.out]; rfl, hbr⟩
      obtain ⟨wo, hwo⟩ : ∃ wo : World, wo = wr := ⟨_, rfl⟩
      subst hwo
      go_wp2_with (first | (go_at_call 34; refine (l1NameOk_calls _ _).mono ?_; rintro e w' ⟨rfl, rfl⟩))
      go_loopw [4] (fun i wr => ∃ m : Nat, m ≤ k ∧ i = .int .i64 m ∧ nqTo xs k m ∧ Below w.heap.size w wr) (fun i _ => k - (intOf i).toNat)
      case atStart => exact ⟨0, by omega, rfl, nqTo_zero _ _, hbr⟩
      case round =>
        obtain ⟨m, hm, rfl, hB, hbs⟩ := hrel
        by_cases hlt2 : m < k
        · obtain ⟨a, c', he, hcell1⟩ := str_elem (h.out.below hbs) (show m < xs.length by omega)
          cases he
          obtain ⟨a, c', he, hcell2⟩ := str_elem (h.out.below hbs) hlt
          cases he
          cases hq : (xs[m].toList == xs[k].toList) with
          | true =>
            have e1 := Hid.mk' (namesOk_not hlt (.inr (mem_take hlt hlt2 hq)))
            go_wp2
            go_quiet (fail)
            go_wp2
            go_ret
            exact ⟨by rw [e1.out]; rfl, ⟨hbs.os, hbs.tape, hbs.output, hbs.size, hbs.block⟩⟩
          | false =>
            have e1 := nqTo_succ hB (by omega) hlt hq
            go_wp2
            go_quiet (fail)
            go_wp2
            go_roundw
            case rel => exact ⟨m + 1, by omega, by go_num, e1, ⟨hbs.os, hbs.tape, hbs.output, hbs.size, hbs.block⟩⟩
            case measure => simp [intOf]; omega
        · obtain rfl : m = k := by omega
          have e1 := nmTo_succ hA hlt hx (nqTo_end hB hlt)
          go_wp2
          go_roundw
          case rel => exact ⟨m + 1, by omega, by go_num, e1, hbs⟩
          case measure => simp [intOf]; omega
    · obtain rfl : k = xs.length := by omega
      have e1 := Hid.mk' ((namesOk_iff _).2 hA)
      go_wp2
      go_ret
      exact ⟨by rw [e1.out]; rfl, hbr⟩

end Go.Proofs.Ytmjfkjdfmpileaa.M
