/- Contracts: Finish. -/
import Derived.Test.YtfefmblinceneaaDoorPuF
import Derived.Test.YtfefmblinceneaaDoorShelf
set_option linter.unusedVariables false
set_option linter.unusedSimpArgs false
namespace Go.Proofs.YtfefmblinceneaaDoor.M
open Go.RowKit

theorem join_calls {t : Nat} (ts : List ByteArray) (v : Value) (w : World) (h : rep w (strsT t ts) v) (hok : ts.all txtOk = true) (hn : ts.length ≤ 100) :
    Calls Tryd.prog 9 #[v, .string ⟨#[44]⟩] w fun e w' => e = .returned (.string (joinB ts)) ∧ Below w.heap.size w w' := by
  obtain ⟨A, c, rfl, hc, _⟩ := rep_len h
  rcases Nat.eq_zero_or_pos ts.length with h0 | h0
  · obtain rfl : ts = [] := List.eq_nil_of_length_eq_zero h0
    refine (Tryd.strings_Join_none A c ⟨#[44]⟩ w).mono ?_
    rintro e w' ⟨rfl, rfl⟩
    exact ⟨by rw [joinB_nil], Below.refl _ _⟩
  · obtain ⟨a, c', he, hcell⟩ := str_elem h h0
    cases he
    have hlt := World.block_lt_of_cell? w _ hcell
    obtain ⟨bk, o, sp⟩ := a
    obtain rfl : sp = none := by
      cases sp with
      | none => rfl
      | some q =>
        simp [World.cell?, Addr.add] at hcell
        split at hcell <;> simp at hcell
    have hadd : ∀ j, (⟨bk, o, none⟩ : Addr).add j = ⟨bk, o + j, none⟩ := fun j => by unfold Addr.add; split <;> simp_all
    rw [hadd] at hlt
    refine (Tryd.strings_Join bk o c ts ⟨#[44]⟩ w (fun j x hj => ?_) hlt (by omega) hc ?_).mono ?_
    · obtain ⟨hj', rfl⟩ := List.getElem?_eq_some_iff.1 hj
      obtain ⟨a, c', he, hcell⟩ := str_elem h hj'
      cases he
      rw [hadd] at hcell
      exact hcell
    · have h1 := joinB_size ts hok
      have h2 : (joinB ts).size = (Lib.join (ts.map (·.data.toList)) [44]).length := by unfold joinB; simp [ByteArray.size]
      rw [h2] at h1
      show (Lib.join (ts.map (·.data.toList)) [44]).length ≤ _
      omega
    · rintro e w' ⟨rfl, hb⟩
      exact ⟨rfl, hb⟩

set_option maxRecDepth 100000 in
set_option maxHeartbeats 2000000 in
theorem Finish_calls {t : Nat} (give : ByteArray) (ts : List ByteArray) (v : Value) (w : World) (h : rep w (strsT t ts) v) (hgs : give.size ≤ 9223372036854775807) (hz : ∀ x ∈ ts, x.size ≤ 9223372036854775807) (hg : 3 < w.heap.size) (ht : w.cell? ⟨3, 15, none⟩ = some (.int .u8 4)) :
    Calls Tryd.prog 7 #[.string give, v] w fun e w' => e = .returned (.string (finish give ts)) ∧ Below w.heap.size w w' := by
  obtain ⟨A, c, rfl, _, hn⟩ := rep_len h
  have H := Asd.mk h
  replace hz := Asd.mk hz
  by_cases p1 : 30 < give.size
  · have e1 := Hid.mk' (show finish give ts = ⟨#[]⟩ by simp [finish, p1])
    have i1 : (30 : Int) < (give.size : Nat) := by omega
    go_enter Tryd.func7, Tryd.ntmps7
    go_wp2
    go_ret
    exact ⟨by rw [e1.out]; rfl, Below.refl _ _⟩
  have i1 : ¬(30 : Int) < (give.size : Nat) := by omega
  by_cases p2 : 100 < ts.length
  · have e1 := Hid.mk' (show finish give ts = ⟨#[]⟩ by simp [finish, p2])
    have i2 : (100 : Int) < (ts.length : Nat) := by omega
    go_enter Tryd.func7, Tryd.ntmps7
    go_wp2
    go_ret
    exact ⟨by rw [e1.out]; rfl, Below.refl _ _⟩
  have i2 : ¬(100 : Int) < (ts.length : Nat) := by omega
  go_enter Tryd.func7, Tryd.ntmps7
  go_wp2
  go_loop [21] (fun i => ∃ k : Nat, k ≤ ts.length ∧ i = .int .i64 k ∧ allTo txtOk ts k) (fun i => ts.length - (intOf i).toNat)
  case atStart => exact ⟨0, by omega, rfl, allTo_zero _ _⟩
  case round =>
    obtain ⟨k, hk, rfl, hA⟩ := hrel
    by_cases hlt : k < ts.length
    · obtain ⟨a, c', he, hcell⟩ := str_elem H.out hlt
      cases he
      have hs := hz.out _ (List.getElem_mem hlt)
      by_cases hx : ts[k].size ≤ 200
      · have e1 := allTo_succ (p := txtOk) hA hlt (by simp [txtOk, hx])
        have i3 : ¬(200 : Int) < (ts[k].size : Nat) := by omega
        go_wp2
        go_round
        case rel => exact ⟨k + 1, by omega, by go_num, e1⟩
        case measure => simp [intOf]; omega
      · have e1 := Hid.mk' (show finish give ts = ⟨#[]⟩ by unfold finish; rw [allTo_not (p := txtOk) hlt (by simp [txtOk]; omega)]; simp)
        have i3 : (200 : Int) < (ts[k].size : Nat) := by omega
        go_wp2
        go_ret
        exact ⟨by rw [e1.out]; rfl, Below.refl _ _⟩
    · obtain rfl : k = ts.length := by omega
      have hok := allTo_end hA
      have hjs := joinB_size ts hok
      have hjs' : (joinB ts).size ≤ 20100 := by omega
      have hok' := Asd.mk hok
      clear hA hok hlt hk hjs
      go_wp2_with (fail)
      refine (join_calls ts _ _ H.out hok'.out (by omega)).mono ?_
      rintro e w1 ⟨rfl, hb1⟩
      have hb1' := Asd.mk hb1
      have hg1 : 3 < w1.heap.size := by have := hb1.size; omega
      have ht1 := cell_below hb1 ht
      clear hb1
      obtain ⟨s, hs⟩ : ∃ s, give ++ ⟨#[40]⟩ ++ joinB ts ++ ⟨#[41]⟩ = s := ⟨_, rfl⟩
      have hw : whole give ts = s := hs
      have hss : s.size ≤ 30000 := by rw [← hs]; simp only [ByteArray.size_append]; have : (⟨#[40]⟩ : ByteArray).size = 1 := rfl; have : (⟨#[41]⟩ : ByteArray).size = 1 := rfl; omega
      replace hw := Asd.mk hw
      by_cases q : s.size ≤ 200
      · have e1 := Hid.mk' (show finish give ts = s by unfold finish; rw [hw.out, hok'.out]; simp [p1, p2, q])
        have i3 : (s.size : Int) ≤ 200 := by omega
        go_wp2
        go_ret
        exact ⟨by rw [e1.out]; rfl, hb1'.out⟩
      · have e1 := Hid.mk' (show finish give ts = ⟨#[35]⟩ ++ strOfNums (hexK 16 (hashTo s s.size)) by unfold finish; rw [hw.out, hok'.out]; simp [p1, p2, q])
        have i3 : ¬(s.size : Int) ≤ 200 := by omega
        go_wp2
        clear hs
        go_loop [8, 9] (fun a i => ∃ k : Nat, k ≤ s.size ∧ i = .int .i64 k ∧ a = .int .u64 (hashTo s k : Nat)) (fun _ i => s.size - (intOf i).toNat)
        case atStart => exact ⟨0, by omega, rfl, by rw [hashTo_zero]; rfl⟩
        case round =>
          obtain ⟨k, hk, rfl, rfl⟩ := hrel
          by_cases hlt : k < s.size
          · have e2 := hashStep s k hlt
            have e4 : IntKind.u64.wrap ((s[k].toNat : Nat) : Int) = ((s[k].toNat : Nat) : Int) := by rw [IntKind.wrap_u64]; have := s[k].toNat_lt; omega
            obtain ⟨H0, hH0⟩ : ∃ H0 : Nat, hashTo s k = H0 := ⟨_, rfl⟩
            obtain ⟨H1, hH1⟩ : ∃ H1 : Nat, hashTo s (k + 1) = H1 := ⟨_, rfl⟩
            have e3 := Asd.mk hH1
            rw [hH0, hH1] at e2
            rw [hH0]
            clear hH0 hH1
            go_wp2
            go_round
            case rel => exact ⟨k + 1, by omega, by go_num, by rw [e3.out]; first | done | rfl | rw [e4, e2] | rw [e2]⟩
            case measure => simp [intOf]; omega
          · obtain rfl : k = s.size := by omega
            have hl := hashTo_lt s s.size
            obtain ⟨n, hn'⟩ : ∃ n : Nat, hashTo s s.size = n := ⟨_, rfl⟩
            rw [hn'] at e1 hl ⊢
            have hlen := hexL_len n hl
            go_wp2_with (fail)
            refine (FormatUint_calls n hl _ hg1 ht1).mono ?_
            obtain ⟨d, hd⟩ : ∃ d, strOfNums (hexL n) = d := ⟨_, rfl⟩
            have hp := pad16 n hl
            have hds : d.size = (hexL n).length := by rw [← hd]; exact strOfNums_size _
            obtain ⟨L, hL⟩ : ∃ L, (hexL n).length = L := ⟨_, rfl⟩
            rw [hd, hL] at hp
            rw [hL] at hds hlen
            rw [hd]
            rintro e w2 ⟨rfl, hb2⟩
            have hb2' := Asd.mk hb2
            clear hb2
            have hcnt : (16 : Int) - (L : Nat) = ((16 - L : Nat) : Int) := by omega
            have hcnt := Asd.mk hcnt
            replace e1 := Hid.mk' (show finish give ts = ⟨#[35]⟩ ++ ((⟨(Lib.repeatL [48] (16 - L)).toArray⟩ : ByteArray) ++ d) by rw [hp]; exact e1.out)
            go_wp2_with (fail)
            refine (Tryd.strings_Repeat ⟨#[48]⟩ (16 - L) _ (by omega) (by have : (⟨#[48]⟩ : ByteArray).size = 1 := rfl; rw [this]; omega)).mono ?_
            rintro e w3 ⟨rfl, hb3⟩
            have hb3' := Asd.mk hb3
            clear hb3
            have hrs : (⟨(Lib.repeatL [48] (16 - L)).toArray⟩ : ByteArray).size = 16 - L := by
              have := Lib.repeatL_length [48] (16 - L)
              simpa [ByteArray.size] using this
            have he : Lib.repeatL (ByteArray.data ⟨#[48]⟩).toList (16 - L) = Lib.repeatL [48] (16 - L) := rfl
            rw [he]
            obtain ⟨r, hr⟩ : ∃ r : ByteArray, (⟨(Lib.repeatL [48] (16 - L)).toArray⟩ : ByteArray) = r := ⟨_, rfl⟩
            rw [hr] at hrs e1 ⊢
            go_wp2
            go_ret
            exact ⟨by rw [e1.out, ByteArray.append_assoc]; rfl, below_st (below_st hb1'.out hb2'.out) hb3'.out⟩
end Go.Proofs.YtfefmblinceneaaDoor.M
