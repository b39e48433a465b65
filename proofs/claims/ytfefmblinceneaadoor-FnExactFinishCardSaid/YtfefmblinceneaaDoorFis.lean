/- Contracts: the reference's Finish. -/
import Derived.Test.YtfefmblinceneaaDoorPuF
set_option linter.unusedVariables false
set_option linter.unusedSimpArgs false
namespace Go.Proofs.YtfefmblinceneaaDoor.M
open Go.RowKit

/-- the text up to a place -/
def outTo (give : ByteArray) (ts : List ByteArray) (k : Nat) : ByteArray := give ++ ⟨#[40]⟩ ++ joinB (ts.take k)
theorem outTo_zero (give : ByteArray) (ts : List ByteArray) : outTo give ts 0 = give ++ ⟨#[40]⟩ := by
  unfold outTo; rw [joinB_zero]; apply ByteArray.ext; simp
theorem outTo_one (give : ByteArray) (ts : List ByteArray) (h : 0 < ts.length) : outTo give ts 0 ++ ts[0] = outTo give ts 1 := by
  rw [outTo_zero]; unfold outTo; rw [joinB_one ts h]
theorem outTo_succ (give : ByteArray) (ts : List ByteArray) (k : Nat) (h : k + 1 < ts.length) : outTo give ts (k + 1) ++ ⟨#[44]⟩ ++ ts[k + 1] = outTo give ts (k + 2) := by
  unfold outTo; rw [joinB_succ ts k h]; apply ByteArray.ext; simp
theorem outTo_first (give : ByteArray) (ts : List ByteArray) (k : Nat) (h0 : k = 0) (h : k < ts.length) : outTo give ts k ++ ts[k] = outTo give ts (k + 1) := by
  subst h0; exact outTo_one give ts h
theorem outTo_next (give : ByteArray) (ts : List ByteArray) (k : Nat) (h0 : 0 < k) (h : k < ts.length) : outTo give ts k ++ ⟨#[44]⟩ ++ ts[k] = outTo give ts (k + 1) := by
  obtain ⟨k, rfl⟩ : ∃ j, k = j + 1 := ⟨k - 1, by omega⟩
  exact outTo_succ give ts k h
theorem outTo_size (give : ByteArray) (ts : List ByteArray) (k : Nat) (hg : ¬30 < give.size) (hn : ¬100 < ts.length) (h : allTo txtOk ts k) (hk : k ≤ ts.length) : (outTo give ts k).size ≤ 30000 := by
  have := joinB_take_size ts k h hk
  unfold outTo
  simp only [ByteArray.size_append]
  have : (⟨#[40]⟩ : ByteArray).size = 1 := rfl
  omega
theorem outTo_end (give : ByteArray) (ts : List ByteArray) : outTo give ts ts.length ++ ⟨#[41]⟩ = whole give ts := by
  unfold outTo whole; rw [List.take_length]

def tab16 : ByteArray := ⟨#[48, 49, 50, 51, 52, 53, 54, 55, 56, 57, 97, 98, 99, 100, 101, 102]⟩
theorem dig_all : ∀ q : Fin 16, (((tab16.extract q.val 16).extract 0 1).data.toList == (strOfNums [hd16 q.val]).data.toList) = true := by decide +kernel
theorem dig_at (q : Nat) (hq : q < 16) : (tab16.extract q 16).extract 0 1 = strOfNums [hd16 q] := by
  have h := dig_all ⟨q, hq⟩
  rw [beq_iff_eq] at h
  exact ByteArray.ext (Array.toList_inj.mp h)
theorem nums_cons (x : Int) (l : List Int) : strOfNums [x] ++ strOfNums l = strOfNums (x :: l) := by
  apply ByteArray.ext; simp [strOfNums]
set_option maxRecDepth 100000 in
set_option maxHeartbeats 2000000 in
theorem sFinish_calls {t : Nat} (give : ByteArray) (ts : List ByteArray) (v : Value) (w : World) (h : rep w (strsT t ts) v) (hgs : give.size ≤ 9223372036854775807) (hz : ∀ x ∈ ts, x.size ≤ 9223372036854775807) :
    Calls Tryd.prog 5 #[.string give, v] w fun e w' => e = .returned (.string (finish give ts)) ∧ Below w.heap.size w w' := by
  obtain ⟨A, c, rfl, _, hn⟩ := rep_len h
  have H := Asd.mk h
  replace hz := Asd.mk hz
  by_cases p1 : 30 < give.size
  · have e1 := Hid.mk' (show finish give ts = ⟨#[]⟩ by simp [finish, p1])
    have i1 : (30 : Int) < (give.size : Nat) := by omega
    go_enter Tryd.func5, Tryd.ntmps5
    go_wp2
    go_ret
    exact ⟨by rw [e1.out]; rfl, Below.refl _ _⟩
  have i1 : ¬(30 : Int) < (give.size : Nat) := by omega
  by_cases p2 : 100 < ts.length
  · have e1 := Hid.mk' (show finish give ts = ⟨#[]⟩ by simp [finish, p2])
    have i2 : (100 : Int) < (ts.length : Nat) := by omega
    go_enter Tryd.func5, Tryd.ntmps5
    go_wp2
    go_ret
    exact ⟨by rw [e1.out]; rfl, Below.refl _ _⟩
  have i2 : ¬(100 : Int) < (ts.length : Nat) := by omega
  go_enter Tryd.func5, Tryd.ntmps5
  go_wp2
  go_loop [5, 6] (fun o i => ∃ k : Nat, k ≤ ts.length ∧ i = .int .i64 k ∧ o = .string (outTo give ts k) ∧ allTo txtOk ts k) (fun _ i => ts.length - (intOf i).toNat)
  case atStart => exact ⟨0, by omega, rfl, by rw [outTo_zero], allTo_zero _ _⟩
  case round =>
    obtain ⟨k, hk, rfl, rfl, hA⟩ := hrel
    have hos := outTo_size give ts k p1 p2 hA hk
    by_cases hlt : k < ts.length
    · obtain ⟨a, c', he, hcell⟩ := str_elem H.out hlt
      cases he
      have hs := hz.out _ (List.getElem_mem hlt)
      by_cases hx : ts[k].size ≤ 200
      · have e1 := allTo_succ (p := txtOk) hA hlt (by simp [txtOk, hx])
        have i3 : ¬(200 : Int) < (ts[k].size : Nat) := by omega
        by_cases h0 : k = 0
        · have e2 := outTo_first give ts k h0 hlt
          have i4 : ¬(0 : Int) < (k : Int) := by omega
          replace h0 := Asd.mk h0
          go_wp2
          go_round
          case rel => exact ⟨k + 1, by omega, by go_num, by first | done | rw [← e2], e1⟩
          case measure => simp [intOf]; omega
        · have e2 := outTo_next give ts k (by omega) hlt
          have i4 : (0 : Int) < (k : Int) := by omega
          go_wp2
          go_round
          case rel => exact ⟨k + 1, by omega, by go_num, by first | done | rw [← e2], e1⟩
          case measure => simp [intOf]; omega
      · have e1 := Hid.mk' (show finish give ts = ⟨#[]⟩ by unfold finish; rw [allTo_not (p := txtOk) hlt (by simp [txtOk]; omega)]; simp)
        have i3 : (200 : Int) < (ts[k].size : Nat) := by omega
        go_wp2
        go_ret
        exact ⟨by rw [e1.out]; rfl, Below.refl _ _⟩
    · obtain rfl : k = ts.length := by omega
      have hok := Asd.mk (allTo_end hA)
      obtain ⟨s, hs⟩ : ∃ s, outTo give ts ts.length ++ ⟨#[41]⟩ = s := ⟨_, rfl⟩
      have hw := Asd.mk (show whole give ts = s by rw [← hs, outTo_end])
      have hss : s.size ≤ 30001 := by rw [← hs]; simp only [ByteArray.size_append]; have : (⟨#[41]⟩ : ByteArray).size = 1 := rfl; omega
      by_cases q : s.size ≤ 200
      · have e1 := Hid.mk' (show finish give ts = s by unfold finish; rw [hw.out, hok.out]; simp [p1, p2, q])
        have i3 : (s.size : Int) ≤ 200 := by omega
        go_wp2
        go_ret
        exact ⟨by rw [e1.out]; rfl, Below.refl _ _⟩
      · have e1 := Hid.mk' (show finish give ts = ⟨#[35]⟩ ++ strOfNums (hexK 16 (hashTo s s.size)) by unfold finish; rw [hw.out, hok.out]; simp [p1, p2, q])
        have i3 : ¬(s.size : Int) ≤ 200 := by omega
        clear hA hlt hk
        go_wp2
        clear hs
        go_loop [7, 8] (fun a i => ∃ k : Nat, k ≤ s.size ∧ i = .int .i64 k ∧ a = .int .u64 (hashTo s k : Nat)) (fun _ i => s.size - (intOf i).toNat)
        case atStart => exact ⟨0, by omega, rfl, by rw [hashTo_zero]; rfl⟩
        case round =>
          obtain ⟨k, hk, rfl, rfl⟩ := hrel
          by_cases hlt : k < s.size
          · have e2 := hashStep s k hlt
            have e4 : IntKind.u64.wrap ((s[k].toNat : Nat) : Int) = ((s[k].toNat : Nat) : Int) := by rw [IntKind.wrap_u64]; have := s[k].toNat_lt; omega
            obtain ⟨H0, hH0⟩ : ∃ H0 : Nat, hashTo s k = H0 := ⟨_, rfl⟩
            obtain ⟨H1, hH1⟩ : ∃ H1 : Nat, hashTo s (k + 1) = H1 := ⟨_, rfl⟩
            have e3 := Asd.mk hH1
            rw [hH0, hH1] at e2
            rw [hH0]
            clear hH0 hH1
            go_wp2
            go_round
            case rel => exact ⟨k + 1, by omega, by go_num, by rw [e3.out]; first | done | rfl | rw [e4, e2] | rw [e2]⟩
            case measure => simp [intOf]; omega
          · obtain rfl : k = s.size := by omega
            have hl := hashTo_lt s s.size
            obtain ⟨n, hn'⟩ : ∃ n : Nat, hashTo s s.size = n := ⟨_, rfl⟩
            rw [hn'] at e1 hl ⊢
            go_wp2
            go_loop [7, 9, 10] (fun v d i => ∃ (k m : Nat) (dl : List Int), k ≤ 16 ∧ i = .int .i64 k ∧ v = .int .u64 m ∧ d = .string (strOfNums dl) ∧ dl.length = k ∧ m < 18446744073709551616 ∧ hexK 16 n = hexK (16 - k) m ++ dl) (fun _ _ i => 16 - (intOf i).toNat)
            case atStart => exact ⟨0, n, [], by omega, rfl, rfl, rfl, rfl, hl, by simp⟩
            case round =>
              obtain ⟨k, m, dl, hk, rfl, rfl, rfl, hdl, hm, hx⟩ := hrel
              by_cases hlt : k < 16
              · obtain ⟨q, hq⟩ : ∃ q, m % 16 = q := ⟨_, rfl⟩
                have hq16 : q < 16 := by omega
                have j1 : ((m : Nat) : Int) % 16 = (q : Nat) := by omega
                have j2 : ((m : Nat) : Int).tmod 16 = (q : Nat) := by rw [Int.tmod_eq_emod_of_nonneg (by omega)]; exact j1
                have j3 : ((m : Nat) : Int).tdiv 16 = ((m / 16 : Nat) : Int) := by rw [Int.tdiv_eq_ediv_of_nonneg (by omega)]; omega
                have hsd : (strOfNums dl).size = k := by rw [strOfNums_size, hdl]
                have h9 := dig_at q hq16
                simp only [tab16] at h9
                have e2 : hexK (16 - k) m = hexK (16 - (k + 1)) (m / 16) ++ [hd16 q] := by
                  rw [show 16 - k = (16 - (k + 1)) + 1 by omega, hexK, hq]
                replace h9 := Asd.mk h9
                replace e2 := Asd.mk e2
                go_wp2
                go_round
                case rel => exact ⟨k + 1, m / 16, hd16 q :: dl, by omega, by go_num, by go_num, by rw [h9.out, nums_cons], by simp [hdl], by omega, by rw [hx, e2.out]; simp⟩
                case measure => simp [intOf]; omega
              · obtain rfl : k = 16 := by omega
                replace e1 := Hid.mk' (show finish give ts = ⟨#[35]⟩ ++ strOfNums dl by rw [e1.out, hx]; rfl)
                have hsd : (strOfNums dl).size = 16 := by rw [strOfNums_size, hdl]
                go_wp2
                go_ret
                exact ⟨by rw [e1.out]; rfl, Below.refl _ _⟩
end Go.Proofs.YtfefmblinceneaaDoor.M
