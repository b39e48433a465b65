/- Contracts: the laws' own sizes. -/
import Derived.Test.YtmjfkjdfmpileaaPure
import Derived.Test.YtmjfkjdfmpileaaProg
set_option linter.unusedVariables false
set_option linter.unusedSimpArgs false
namespace Go.Proofs.Ytmjfkjdfmpileaa.M
open Go.RowKit

def szI (b : Nat) (left : Int) : Int := if (b : Int) ≤ left then left - b else -1
theorem szI_yes {b : Nat} {left : Int} (h : (b : Int) ≤ left) : szI b left = left - b := if_pos h
theorem szI_no {b : Nat} {left : Int} (h : ¬(b : Int) ≤ left) : szI b left = -1 := if_neg h
def sumTo {α : Type} (f : α → Nat) (xs : List α) (k : Nat) : Nat := ((xs.take k).map f).sum
theorem sumTo_zero {α : Type} (f : α → Nat) (xs : List α) : sumTo f xs 0 = 0 := by simp [sumTo]
theorem sumTo_succ {α : Type} (f : α → Nat) (xs : List α) (k : Nat) (h : k < xs.length) : sumTo f xs (k + 1) = sumTo f xs k + f xs[k] := by
  unfold sumTo; rw [List.take_succ_eq_append_getElem h, List.map_append, List.sum_append]; simp
theorem sumTo_end {α : Type} (f : α → Nat) (xs : List α) : sumTo f xs xs.length = (xs.map f).sum := by simp [sumTo]
theorem sumTo_le {α : Type} (f : α → Nat) (xs : List α) (k : Nat) (h : k < xs.length) : sumTo f xs k + f xs[k] ≤ (xs.map f).sum := by
  rw [← sumTo_succ f xs k h, ← List.take_append_drop (k + 1) (xs.map f), List.sum_append, ← List.map_take]; unfold sumTo; omega
def bsOf {α : Type} (f : α → Nat) (xs : List α) : Nat := xs.length + (xs.map f).sum
def szTo {α : Type} (f : α → Nat) (xs : List α) (left : Int) (k : Nat) (L : Int) : Prop := left = L + xs.length + sumTo f xs k
theorem szTo_zero {α : Type} (f : α → Nat) (xs : List α) (left : Int) : szTo f xs left 0 (left - xs.length) := by unfold szTo; rw [sumTo_zero]; omega
theorem szTo_succ {α : Type} {f : α → Nat} {xs : List α} {left L : Int} {k : Nat} (h : szTo f xs left k L) (hk : k < xs.length) : szTo f xs left (k + 1) (L - f xs[k]) := by unfold szTo at *; rw [sumTo_succ f xs k hk]; omega
theorem szTo_no {α : Type} {f : α → Nat} {xs : List α} {left L : Int} {k : Nat} (h : szTo f xs left k L) (hk : k < xs.length) (hn : ¬(f xs[k] : Int) ≤ L) : szI (bsOf f xs) left = -1 := by
  have := sumTo_le f xs k hk; unfold szTo at h; exact szI_no (by unfold bsOf; omega)
theorem szTo_end {α : Type} {f : α → Nat} {xs : List α} {left L : Int} (h : szTo f xs left xs.length L) (h0 : 0 ≤ L) : szI (bsOf f xs) left = L := by
  unfold szTo at h; rw [sumTo_end] at h; rw [szI_yes (by unfold bsOf; omega)]; unfold bsOf; omega
def bkS (xs : List ByteArray) : Nat := bsOf ByteArray.size xs
def SmS (xs : List ByteArray) : Prop := ∀ x ∈ xs, x.size ≤ 9223372036854775807
set_option maxHeartbeats 1000000 in
theorem szStringS_calls {t : Nat} (xs : List ByteArray) (left : Int) (v : Value) (w : World) (h : rep w (strsT t xs) v) (g0 : 0 ≤ left) (g1 : left ≤ 1048576) (hz : SmS xs) :
    Calls Try.prog 23 #[v, .int .i64 left] w fun e w' => e = .returned (.int .i64 (szI (bkS xs) left)) ∧ Below w.heap.size w w' := by
  obtain ⟨A, c, rfl, hc, hn⟩ := rep_len h
  have h := Asd.mk h
  by_cases q0 : (xs.length : Int) ≤ left
  rotate_left
  · have e1 := Hid.mk' (show szI (bkS xs) left = -1 from szI_no (by unfold bkS bsOf; omega))
    go_enter Try.func23, Try.ntmps23
    go_wp2
    go_ret
    exact ⟨by rw [e1.out]; rfl, Below.refl _ _⟩
  go_enter Try.func23, Try.ntmps23
  go_wp2
  go_loop [1, 5] (fun l i => ∃ (k : Nat) (L : Int), k ≤ xs.length ∧ i = .int .i64 k ∧ l = .int .i64 L ∧ 0 ≤ L ∧ L ≤ 1048576 ∧ szTo ByteArray.size xs left k L) (fun _ i => xs.length - (intOf i).toNat)
  case atStart => exact ⟨0, _, by omega, rfl, rfl, by omega, by omega, szTo_zero _ _ _⟩
  case round =>
    obtain ⟨k, L, hk, rfl, rfl, hL0, hL1, hA⟩ := hrel
    by_cases hlt : k < xs.length
    · obtain ⟨a, c', he, hcell⟩ := str_elem h.out hlt
      cases he
      have hsm := hz _ (List.getElem_mem hlt)
      by_cases q1 : (xs[k].size : Int) ≤ L
      · have e1 := szTo_succ hA hlt
        go_wp2
        go_round
        case rel => exact ⟨k + 1, _, by omega, by go_num, rfl, by omega, by omega, e1⟩
        case measure => simp [intOf]; omega
      · have e1 := Hid.mk' (szTo_no hA hlt q1)
        go_wp2
        go_ret
        exact ⟨by rw [bkS, e1.out]; rfl, Below.refl _ _⟩
    · obtain rfl : k = xs.length := by omega
      have e1 := Hid.mk' (szTo_end hA hL0)
      go_wp2
      go_ret
      exact ⟨by rw [bkS, e1.out]; rfl, Below.refl _ _⟩
end Go.Proofs.Ytmjfkjdfmpileaa.M
