/- Contracts: names and actions, of the program and of the reference. -/
import Derived.Test.YtmjfkjdfmpileaaProg
import Derived.Test.YtmjfkjdfmpileaaPure
set_option linter.unusedVariables false
set_option linter.unusedSimpArgs false
namespace Go.Proofs.Ytmjfkjdfmpileaa.M
open Go.RowKit

theorem in_calls (a b c : Int) (w : World) : Calls Try.prog 71 #[.int .i64 a, .int .i64 b, .int .i64 c] w fun e w' => e = .returned (.bool (inB a b c)) ∧ w = w' := by
  go_enter Try.func71, Try.ntmps71
  go_wp2
  all_goals (go_ret; first | exact ⟨by simp [*, inB]; try omega, rfl⟩)
theorem l1In_calls (a b c : Int) (w : World) : Calls Try.prog 70 #[.int .i64 a, .int .i64 b, .int .i64 c] w fun e w' => e = .returned (.bool (inB a b c)) ∧ w = w' := by
  go_enter Try.func70, Try.ntmps70
  go_wp2
  all_goals (go_ret; first | exact ⟨by simp [*, inB]; try omega, rfl⟩)

theorem goodName_calls (s : ByteArray) (w : World) : Calls Try.prog 38 #[.string s] w fun e w' => e = .returned (.bool (nameOk s)) ∧ w = w' := by
  by_cases h1 : inB s.size 1 20 = true
  rotate_left
  · go_enter Try.func38, Try.ntmps38
    go_wp2_with (first | (go_at_call 71; refine (in_calls _ _ _ _).mono ?_; rintro e w' ⟨rfl, rfl⟩))
    go_ret
    exact ⟨by simp [nameOk, *], rfl⟩
  have hz : s.size ≤ 20 := by simp [inB] at h1; omega
  go_enter Try.func38, Try.ntmps38
  go_wp2_with (first | (go_at_call 71; refine (in_calls _ _ _ _).mono ?_; rintro e w' ⟨rfl, rfl⟩))
  · go_ret
    exact ⟨by simp [nameOk, *], rfl⟩
  go_loop [3] (fun i => ∃ k : Nat, k ≤ s.size ∧ i = .int .i64 k ∧ okTo s k) (fun i => s.size - (intOf i).toNat)
  case atStart => exact ⟨0, by omega, rfl, by simp [okTo]⟩
  case round =>
    obtain ⟨k, hk, rfl, hA⟩ := hrel
    by_cases hlt : k < s.size
    · go_wp2
      all_goals first
        | (go_ret; refine ⟨?_, rfl⟩; rw [nameOk, all_not s k hlt (okB_not _ (by first | assumption | (simp_all; done) | omega))]; simp)
        | (go_round; case rel => exact ⟨k + 1, by omega, by go_num, okTo_succ s k hlt hA ((okB_iff _).2 (by simp_all))⟩
           case measure => simp [intOf]; omega)
    · go_wp2
      go_ret
      obtain rfl : k = s.size := by omega
      exact ⟨by rw [nameOk, okTo_all s hA]; simp [*], rfl⟩
theorem l1NameOk_calls (s : ByteArray) (w : World) : Calls Try.prog 34 #[.string s] w fun e w' => e = .returned (.bool (nameOk s)) ∧ w = w' := by
  by_cases h1 : inB s.size 1 20 = true
  rotate_left
  · go_enter Try.func34, Try.ntmps34
    go_wp2_with (first | (go_at_call 70; refine (l1In_calls _ _ _ _).mono ?_; rintro e w' ⟨rfl, rfl⟩))
    go_ret
    exact ⟨by simp [nameOk, *], rfl⟩
  have hz : s.size ≤ 20 := by simp [inB] at h1; omega
  go_enter Try.func34, Try.ntmps34
  go_wp2_with (first | (go_at_call 70; refine (l1In_calls _ _ _ _).mono ?_; rintro e w' ⟨rfl, rfl⟩))
  · go_ret
    exact ⟨by simp [nameOk, *], rfl⟩
  go_loop [3] (fun i => ∃ k : Nat, k ≤ s.size ∧ i = .int .i64 k ∧ okTo s k) (fun i => s.size - (intOf i).toNat)
  case atStart => exact ⟨0, by omega, rfl, by simp [okTo]⟩
  case round =>
    obtain ⟨k, hk, rfl, hA⟩ := hrel
    by_cases hlt : k < s.size
    · go_wp2
      all_goals first
        | (go_ret; refine ⟨?_, rfl⟩; rw [nameOk, all_not s k hlt (okB_not _ (by first | assumption | (simp_all; done) | omega))]; simp)
        | (go_round; case rel => exact ⟨k + 1, by omega, by go_num, okTo_succ s k hlt hA ((okB_iff _).2 (by simp_all))⟩
           case measure => simp [intOf]; omega)
    · go_wp2
      go_ret
      obtain rfl : k = s.size := by omega
      exact ⟨by rw [nameOk, okTo_all s hA]; simp [*], rfl⟩

def PosIff (p : Prop) (e : Ending) : Prop := ∃ r : Int, e = .returned (.int .i64 r) ∧ (0 ≤ r ↔ p)
theorem Index_calls {ts : Nat} (xs : List ByteArray) (x : ByteArray) (v : Value) (w : World) (h : rep w (strsT ts xs) v) :
    Calls Try.prog 104 #[v, .string x] w fun e w' => PosIff (x ∈ xs) e ∧ w = w' := by
  obtain ⟨A, c, rfl, hc, hn⟩ := rep_len h
  go_enter Try.func104, Try.ntmps104
  go_wp2
  go_loop [8] (fun i => ∃ k : Nat, k ≤ xs.length ∧ i = .int .i64 k ∧ notTo xs x k) (fun i => xs.length - (intOf i).toNat)
  case atStart => exact ⟨0, by omega, rfl, notTo_zero xs x⟩
  case round =>
    obtain ⟨k, hk, rfl, hA⟩ := hrel
    by_cases hlt : k < xs.length
    · obtain ⟨a, c', he, hcell⟩ := str_elem h hlt
      cases he
      by_cases hx : (x.toList == xs[k].toList) = true
      · have e1 := mem_at hlt hx
        go_wp2
        go_ret
        exact ⟨⟨_, rfl, by simp [e1]⟩, rfl⟩
      · have hA' := notTo_succ hA hlt hx
        have hx := Bool.eq_false_iff.2 hx
        go_wp2
        go_round
        case rel => exact ⟨k + 1, by omega, by go_num, hA'⟩
        case measure => simp [intOf]; omega
    · obtain rfl : k = xs.length := by omega
      have e1 := notTo_end hA
      go_wp2
      go_ret
      exact ⟨⟨_, rfl, by simp [e1]⟩, rfl⟩
theorem Contains_calls {ts : Nat} (xs : List ByteArray) (x : ByteArray) (v : Value) (w : World) (h : rep w (strsT ts xs) v) :
    Calls Try.prog 93 #[v, .string x] w fun e w' => e = .returned (.bool (decide (x ∈ xs))) ∧ w = w' := by
  go_enter Try.func93, Try.ntmps93
  go_wp2_with (first | (go_at_call 104; refine (Index_calls xs x _ _ h).mono ?_; rintro e w' ⟨⟨r, rfl, hr⟩, rfl⟩; have hr := Asd.mk hr))
  all_goals go_ret
  all_goals exact ⟨by have := hr.out; congr 2; try (rw [Bool.eq_iff_iff]; simp [*]), rfl⟩

end Go.Proofs.Ytmjfkjdfmpileaa.M
