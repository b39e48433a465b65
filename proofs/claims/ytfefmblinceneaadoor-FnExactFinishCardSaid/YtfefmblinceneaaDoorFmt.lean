/- Contracts: strconv.FormatUint in base 16. -/
import Derived.Test.YtfefmblinceneaaDoorMem
import Derived.Laws.BitsLemmas
import Derived.Laws.Bits64
import Derived.Laws.BytesArg
import Derived.Test.YtfefmblinceneaaDoorProg
set_option linter.unusedVariables false
set_option linter.unusedSimpArgs false
namespace Go.Proofs.YtfefmblinceneaaDoor.M
open Go.RowKit

theorem isPow_calls (w : World) : Calls Tryd.prog 33 #[.int .i64 16] w fun e w' => e = .returned (.bool true) ∧ w = w' := by
  go_enter Tryd.func33, Tryd.ntmps33
  go_wp2
  go_ret
  exact ⟨rfl, rfl⟩
theorem tz64_calls (w : World) (ht : w.cell? ⟨3, 15, none⟩ = some (.int .u8 4)) : Calls Tryd.prog 36 #[.int .u64 16] w fun e w' => e = .returned (.int .i64 4) ∧ w = w' := by
  have n1 : IntKind.u64.wrap (-16) = 18446744073709551600 := by decide +kernel
  have n2 : bits BinOp.and IntKind.u64 16 18446744073709551600 = 16 := by decide +kernel
  have n3 : IntKind.u64.wrap (16 * 285870213051353865) = 4573923408821661840 := by decide +kernel
  have n4 : IntKind.u64.wrap 4573923408821661840 = 4573923408821661840 := by decide +kernel
  go_enter Tryd.func36, Tryd.ntmps36
  go_wp2
  go_ret
  exact ⟨rfl, rfl⟩
theorem tz_calls (w : World) (ht : w.cell? ⟨3, 15, none⟩ = some (.int .u8 4)) : Calls Tryd.prog 34 #[.int .u64 16] w fun e w' => e = .returned (.int .i64 4) ∧ w = w' := by
  go_enter Tryd.func34, Tryd.ntmps34
  go_wp2_with (first | (go_at_call 36; refine (tz64_calls _ ht).mono ?_; rintro e w' ⟨rfl, rfl⟩))
  go_ret
  exact ⟨rfl, rfl⟩

/-- a hexadecimal digit's byte; the digits of a number, the greatest first -/
def hd16 (k : Nat) : Int := if k < 10 then 48 + k else 87 + k
def hexL (n : Nat) : List Int := if h : n < 16 then [hd16 n] else hexL (n / 16) ++ [hd16 (n % 16)]
termination_by n
decreasing_by omega
theorem hexL_small {n : Nat} (h : n < 16) : hexL n = [hd16 n] := by rw [hexL]; simp [h]
theorem hexL_big {n : Nat} (h : ¬n < 16) : hexL n = hexL (n / 16) ++ [hd16 (n % 16)] := by rw [hexL]; simp [h]
/-- 65 cells that can be written, the last ones written -/
def Arr65 (w : World) (g i : Nat) (ds : List Int) : Prop := (∀ j, j < 65 → ∃ u, w.cell? ⟨g, j, none⟩ = some u) ∧ (∀ j, w.frozen? ⟨g, j, none⟩ = false) ∧ ∀ k, k < ds.length → w.cell? ⟨g, i + k, none⟩ = some (.int .u8 (ds.getD k 0))
theorem Arr65.init (w : World) (t : TypeId) : Arr65 (w.alloc (.cells (Array.replicate 65 (.int .u8 0)) t)) w.heap.size 65 [] := by
  refine ⟨fun j hj => ⟨.int .u8 0, ?_⟩, fun j => ?_, fun k hk => by simp at hk⟩
  · rw [World.cell?_alloc_new]; simp [hj]
  · go_simp
theorem Arr65.store {w : World} {g i : Nat} {ds : List Int} (h : Arr65 w g (i + 1) ds) (hi : i < 65) (d : Int) : Arr65 (w.setCell ⟨g, i, none⟩ (.int .u8 d)) g i (d :: ds) := by
  obtain ⟨h1, h2, h3⟩ := h
  refine ⟨fun j hj => ?_, fun j => by rw [World.frozen?_setCell]; exact h2 j, fun k hk => ?_⟩
  · obtain ⟨u, hu⟩ := h1 j hj
    exact cell?_setCell_some hu
  · cases k with
    | zero =>
      obtain ⟨u, hu⟩ := h1 i hi
      simpa using World.cell?_setCell_same w _ (.int .u8 d) hu
    | succ k =>
      have ho : (w.setCell ⟨g, i, none⟩ (.int .u8 d)).cell? ⟨g, i + (k + 1), none⟩ = w.cell? ⟨g, i + (k + 1), none⟩ := by
        apply World.cell?_setCell_other
        intro e; cases e
      rw [ho]
      have := h3 k (by simpa using hk)
      simpa [Nat.add_assoc, Nat.add_comm 1 k] using this
theorem wraps_u64 (n : Int) (h₀ : 0 ≤ n) (h₁ : n < 2 ^ 64) : IntKind.u64.wrap n = n := by rw [IntKind.wrap_u64]; omega
theorem and15 (m : Nat) (h : m < 18446744073709551616) : bits .and .u64 (m : Int) 15 = ((m % 16 : Nat) : Int) := by
  have h := bits_mask .u64 64 (by decide) wraps_u64 4 (by decide) (m : Int) (by omega) (by omega)
  have e : ((2 : Int) ^ 4 - 1) = 15 := by decide
  have e2 : ((2 : Int) ^ 4) = 16 := by decide
  rw [e, e2] at h
  rw [h]; omega
def tab36 : ByteArray := ⟨#[48, 49, 50, 51, 52, 53, 54, 55, 56, 57, 97, 98, 99, 100, 101, 102, 103, 104, 105, 106, 107, 108, 109, 110, 111, 112, 113, 114, 115, 116, 117, 118, 119, 120, 121, 122]⟩
theorem digit_all : ∀ k : Fin 16, ((tab36[k.val]'(by have := k.isLt; have : tab36.size = 36 := rfl; omega)).toNat : Int) = hd16 k.val := by decide
theorem digit_at (k : Nat) (hk : k < 16) (hp : k < tab36.size) : ((tab36[k]'hp).toNat : Int) = hd16 k := digit_all ⟨k, hk⟩
theorem pow16 {m d N : Nat} (hm : m * 16 ^ d ≤ N) (hN : N < 18446744073709551616) (h : 1 ≤ m) : d ≤ 15 := by
  rcases Nat.lt_or_ge 15 d with h1 | h1
  · have h2 : 16 ^ 16 ≤ 16 ^ d := Nat.pow_le_pow_right (by omega) h1
    have h3 : 16 ^ d ≤ m * 16 ^ d := Nat.le_mul_of_pos_left _ h
    have h4 : (16 : Nat) ^ 16 = 18446744073709551616 := by decide
    omega
  · exact h1
theorem pow16s {m d N : Nat} (hm : m * 16 ^ d ≤ N) : (m / 16) * 16 ^ (d + 1) ≤ N := by
  have h1 : (m / 16) * 16 ≤ m := Nat.div_mul_le_self m 16
  calc (m / 16) * 16 ^ (d + 1) = ((m / 16) * 16) * 16 ^ d := by rw [Nat.pow_succ, Nat.mul_assoc, Nat.mul_comm (16 ^ d) 16]
    _ ≤ m * 16 ^ d := Nat.mul_le_mul_right _ h1
    _ ≤ N := hm
theorem zero65 (w : World) : Sem.run Tryd.prog (zeroValue 65) w = .ok (.agg (Array.replicate 65 (.int .u8 0))) w := by
  have h : (Tryd.prog.info? 65).map (fun i => i.zero) = some (some (.agg (Array.replicate 65 (.int .u8 0)))) := by kernel_rfl
  obtain ⟨i, h1, h2⟩ := Option.map_eq_some_iff.1 h
  simp [zeroValue, typeInfo, h1, h2]
set_option maxRecDepth 100000 in
set_option maxHeartbeats 2000000 in
theorem formatBits_calls (N : Nat) (hN : N < 18446744073709551616) (w : World) (hg : 3 < w.heap.size) (ht : w.cell? ⟨3, 15, none⟩ = some (.int .u8 4)) :
    Calls Tryd.prog 24 #[.slice none 0 0, .int .u64 N, .int .i64 16, .bool false, .bool false] w fun e w' => e = .returned (.tuple #[.slice none 0 0, .string (strOfNums (hexL N))]) ∧ Below w.heap.size w w' := by
  have zv := zero65
  go_enter Tryd.func24, Tryd.ntmps24
  go_wp2_with (first | (go_at_call 33; refine (isPow_calls _).mono ?_; rintro e w' ⟨rfl, rfl⟩) | (go_at_call 34; refine (tz_calls _ (by go_simp)).mono ?_; rintro e w' ⟨rfl, rfl⟩))
  go_loopw [1, 13] (fun v j wr => ∃ (m i : Nat) (ds : List Int), v = .int .u64 m ∧ j = .int .i64 i ∧ ds.length + i = 65 ∧ m * 16 ^ ds.length ≤ N ∧ hexL N = hexL m ++ ds ∧ (1 ≤ m ∨ ds = []) ∧ Below w.heap.size w wr ∧ w.heap.size < wr.heap.size ∧ Arr65 wr w.heap.size i ds) (fun v _ _ => (intOf v).toNat)
  case atStart => exact ⟨N, 65, [], rfl, rfl, rfl, by simp, by simp, .inr rfl, (Below.refl _ _).alloc (Nat.le_refl _) _, by simp, Arr65.init _ _⟩
  case round =>
    obtain ⟨m, i, ds, rfl, rfl, hl, hm, hx, h01, hbr, hsz, hA⟩ := hrel
    have hmN : m ≤ N := Nat.le_trans (Nat.le_mul_of_pos_right m (Nat.pow_pos (by omega))) hm
    have hb := and15 m (by omega)
    obtain ⟨q, hq⟩ : ∃ q, m % 16 = q := ⟨_, rfl⟩
    rw [hq] at hb
    have hq16 : q < 16 := by omega
    have j1 : ((q : Nat) : Int) < 36 := by omega
    have hd : ds.length ≤ 15 := by
      rcases h01 with h0 | h0
      · exact pow16 hm hN h0
      · rw [h0]; simp
    obtain ⟨i, rfl⟩ : ∃ i', i = i' + 1 := ⟨i - 1, by omega⟩
    obtain ⟨u, hu⟩ := hA.1 i (by omega)
    have hf := hA.2.1 i
    by_cases hlt : m < 16
    · have e2 := hexL_small hlt
      have e3 := hA.store (by omega) (hd16 m)
      have j2 : ((m : Nat) : Int) < 36 := by omega
      have h9 := digit_at m hlt (by have : tab36.size = 36 := rfl; omega)
      simp only [tab36] at h9
      have hal : Tryd.prog.arrayLen 65 = 65 := by simp [Program.arrayLen, Tryd.underlying65]
      have hsl : ∀ W, (Instr.sliceAt 65 (.pointer (some ⟨w.heap.size, 0, none⟩)) (some (.int .i64 i)) none none).run Tryd.prog W = .ok (.slice (some ⟨w.heap.size, i, none⟩) (65 - i) (65 - i)) W := fun W => by
        rw [run_sliceAt_array_l W 65 ⟨w.heap.size, 0, none⟩ (by simp [Program.arrayLen, Program.elem, Tryd.underlying65]) .i64 i (by omega) (by rw [hal]; omega)]
        have h65 : ¬(65 : Nat) = i := by omega
        have ha0 := add_zero' w.heap.size i
        have hel : Tryd.prog.elem 65 = 5 := by simp [Program.elem, Tryd.underlying65]
        rw [hel]
        simp [hal, h65, ha0, slicedAt, Tryd.sizeOf5]
      have hcv := run_convert_bytes_arg (P := Tryd.prog) (wr.setCell ⟨w.heap.size, i, none⟩ (.int .u8 (hd16 m))) 33 5 Tryd.underlying33 Tryd.underlying5 w.heap.size i (65 - i) (65 - i) (hd16 m :: ds) (by simp; omega) (fun k hk => e3.2.2 k (by simp; omega)) 9 Tryd.underlying9
      go_wp2
      refine bodyPost_ret (v := .tuple #[.slice none 0 0, .string (strOfNums (hd16 m :: ds))]) (by simp [results, Tryd.results24, go_sem, *]) rfl ?_
      exact ⟨by rw [hx, e2]; rfl, by repeat (first | (with_reducible exact Below.refl _ _) | (with_reducible exact hbr) | (with_reducible refine below_al ?_ _) | (with_reducible refine below_dr ?_ _) | ((with_reducible refine Below.setCell ?_ ?_ _); rotate_left; (next => first | (simp; done) | (simp; omega) | omega)))⟩
    · have e1 := pow16s hm
      have e2 := hexL_big hlt
      have e3 := hA.store (by omega) (hd16 q)
      go_wp2
      go_roundw
      case rel => exact ⟨m / 16, i, hd16 q :: ds, by go_num, rfl, by simp; omega, e1, by rw [hx, e2, hq]; simp, .inl (by omega), by repeat (first | (with_reducible exact Below.refl _ _) | (with_reducible exact hbr) | (with_reducible refine below_al ?_ _) | (with_reducible refine below_dr ?_ _) | ((with_reducible refine Below.setCell ?_ ?_ _); rotate_left; (next => first | (simp; done) | (simp; omega) | omega))), by simpa using hsz, by have h9 := digit_at q hq16 (by have : tab36.size = 36 := rfl; omega); simp only [tab36] at h9; rw [h9]; exact e3⟩
      case measure => simp [intOf]; omega
theorem iFormat_calls (N : Nat) (hN : N < 18446744073709551616) (w : World) (hg : 3 < w.heap.size) (ht : w.cell? ⟨3, 15, none⟩ = some (.int .u8 4)) :
    Calls Tryd.prog 15 #[.int .u64 N, .int .i64 16] w fun e w' => e = .returned (.string (strOfNums (hexL N))) ∧ Below w.heap.size w w' := by
  go_enter Tryd.func15, Tryd.ntmps15
  go_wp2_with (first | (go_at_call 24; refine (formatBits_calls N hN _ hg ht).mono ?_; rintro e w' ⟨rfl, hb⟩))
  go_ret
  exact ⟨rfl, hb⟩
theorem FormatUint_calls (N : Nat) (hN : N < 18446744073709551616) (w : World) (hg : 3 < w.heap.size) (ht : w.cell? ⟨3, 15, none⟩ = some (.int .u8 4)) :
    Calls Tryd.prog 10 #[.int .u64 N, .int .i64 16] w fun e w' => e = .returned (.string (strOfNums (hexL N))) ∧ Below w.heap.size w w' := by
  go_enter Tryd.func10, Tryd.ntmps10
  go_wp2_with (first | (go_at_call 15; refine (iFormat_calls N hN _ hg ht).mono ?_; rintro e w' ⟨rfl, hb⟩))
  go_ret
  exact ⟨rfl, hb⟩
end Go.Proofs.YtfefmblinceneaaDoor.M
