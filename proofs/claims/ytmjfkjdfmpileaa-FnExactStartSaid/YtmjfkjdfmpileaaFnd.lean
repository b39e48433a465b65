/- Contracts: sort.Search over a test that only reads, and the web's own search. -/
import Derived.Test.YtmjfkjdfmpileaaData
import Derived.Test.YtmjfkjdfmpileaaProg
import Derived.Test.YtmjfkjdfmpileaaPuN
import Derived.Shelf.Abstract
set_option linter.unusedVariables false
set_option linter.unusedSimpArgs false
namespace Go.Proofs.Ytmjfkjdfmpileaa.M
open Go.RowKit
/-- what the search hands back: the first place from which the test holds -/
def SrchPost (p : Nat → Bool) (n : Nat) (w : World) (e : Ending) (w' : World) : Prop := ∃ k : Nat, k ≤ n ∧ (∀ t, t < k → p t = false) ∧ (∀ t, k ≤ t → t < n → p t = true) ∧ e = .returned (.int .i64 k) ∧ Below w.heap.size w w'
def SrchInv (p : Nat → Bool) (n lo hi : Nat) : Prop := (∀ t, t < lo → p t = false) ∧ (∀ t, hi ≤ t → t < n → p t = true)
set_option maxHeartbeats 1000000 in
theorem Search_calls (g : Nat) (cb : Array Value) (n : Nat) (p : Nat → Bool) (w : World) (eg : ∀ args w, (callFunc g args).run Try.prog w = .ok (.enter g args) w) (hsz : n < 4611686018427387904)
    (hf : ∀ W, Below w.heap.size w W → ∀ i : Nat, i < n → Calls Try.prog g (#[.int .i64 i] ++ cb) W fun e w' => e = .returned (.bool (p i)) ∧ Below W.heap.size W w')
    (hmono : ∀ a b, a ≤ b → b < n → p a = true → p b = true) :
    Calls Try.prog 72 #[.int .i64 n, .func (.func g) #[] cb] w (SrchPost p n w) := by
  have HF := Asd.mk hf
  have M := Asd.mk hmono
  clear hf hmono
  go_enter Try.func72, Try.ntmps72
  go_wp2
  go_loopg [5, 6] n (fun kx s5 s6 wr => ∃ (lo hi : Nat), s5 = .int .i64 lo ∧ s6 = .int .i64 hi ∧ lo ≤ hi ∧ hi ≤ n ∧ hi - lo ≤ kx ∧ Below w.heap.size w wr ∧ SrchInv p n lo hi)
  case atStart => exact ⟨0, n, rfl, rfl, Nat.zero_le _, Nat.le_refl _, by omega, Below.refl _ _, fun t ht => absurd ht (Nat.not_lt_zero _), fun t h1 h2 => by omega⟩
  case round =>
    obtain ⟨lo, hi, rfl, rfl, hlh, hin, hg, hbr, I⟩ := hrel
    by_cases hlt : lo < hi
    · have hc := HF.out wr hbr ((lo + hi) / 2) (by omega)
      rw [show (((lo + hi) / 2 : Nat) : Int) = ((lo : Int) + (hi : Int)) / 2 by omega] at hc
      cases hp : p ((lo + hi) / 2) <;> rw [hp] at hc
      · have I2 : SrchInv p n ((lo + hi) / 2 + 1) hi := ⟨fun t ht => (by
            cases h : p t with
            | false => rfl
            | true => have := M.out t ((lo + hi) / 2) (by omega) (by omega) h; rw [hp] at this; cases this), I.2⟩
        clear hp
        replace hbr := Asd.mk hbr
        go_wp2_with (go_at_fn g; refine hc.mono ?_; rintro e w' ⟨rfl, hb⟩)
        go_roundg (hi - ((lo + hi) / 2 + 1))
        case measure => omega
        case rel => exact ⟨(lo + hi) / 2 + 1, hi, by rw [show ((lo : Int) + (hi : Int)) / 2 + 1 = (((lo + hi) / 2 + 1 : Nat) : Int) by omega], rfl, by omega, hin, Nat.le_refl _, below_st hbr.out hb, I2⟩
      · have I2 : SrchInv p n lo ((lo + hi) / 2) := ⟨I.1, fun t ht htn => M.out ((lo + hi) / 2) t ht htn hp⟩
        clear hp
        replace hbr := Asd.mk hbr
        go_wp2_with (go_at_fn g; refine hc.mono ?_; rintro e w' ⟨rfl, hb⟩)
        go_roundg ((lo + hi) / 2 - lo)
        case measure => omega
        case rel => exact ⟨lo, (lo + hi) / 2, rfl, by rw [show ((lo : Int) + (hi : Int)) / 2 = (((lo + hi) / 2 : Nat) : Int) by omega], by omega, by omega, Nat.le_refl _, below_st hbr.out hb, I2⟩
    · obtain rfl : hi = lo := by omega
      have I := Asd.mk I
      go_wp2
      go_ret
      exact ⟨hi, hin, I.out.1, I.out.2, rfl, hbr⟩
set_option maxHeartbeats 1000000 in
theorem findF_calls {tN tS tC : Nat} (xs : List Node) (name : ByteArray) (A : Option Addr) (c bw bn i : Nat) (W : World) (h : rep W (NodesT tN tS tC xs) (.slice A xs.length c)) (hi : i < xs.length)
    (c0 : W.cell? ⟨bw, 0, none⟩ = some (.slice A xs.length c)) (c1 : W.cell? ⟨bn, 0, none⟩ = some (.string name)) :
    Calls Try.prog 73 (#[.int .i64 i] ++ #[.pointer (some ⟨bw, 0, none⟩), .pointer (some ⟨bn, 0, none⟩)]) W fun e w' => e = .returned (.bool (!ltS xs[i].Name name)) ∧ Below W.heap.size W w' := by
  obtain ⟨a, c', v2, he, k0, k1, k2, h2, hr⟩ := Node.elem h hi
  cases he
  clear h h2 hr k1 k2
  have hiz : (i : Int) < (xs.length : Int) := by omega
  go_enter Try.func73, Try.ntmps73
  go_wp2
  go_quiet (fail)
  go_wp2
  go_ret
  exact ⟨by rfl, below_dr (Below.refl _ _) _⟩
def geB (xs : List Node) (name : ByteArray) (i : Nat) : Bool := if h : i < xs.length then !ltS xs[i].Name name else true
theorem geB_at {xs : List Node} {name : ByteArray} {i : Nat} (h : i < xs.length) : geB xs name i = !ltS xs[i].Name name := by simp [geB, h]
def FindPost (xs : List Node) (name : ByteArray) (w : World) (e : Ending) (w' : World) : Prop := ∃ k : Nat, FindAt xs name k ∧ e = .returned (.tuple #[.int .i64 k, .bool (hasN xs name)]) ∧ Below w.heap.size w w'
set_option maxHeartbeats 1000000 in
theorem find_calls {tN tS tC : Nat} (x : Web) (name : ByteArray) (w : World) {vs : List Value} (h : reps w (x.c tN tS tC) vs) (ha : Asc (x.Nodes.map Node.Name)) (hn : x.Nodes.length ≤ 1000000) :
    Calls Try.prog 39 #[.agg vs.toArray, .string name] w (FindPost x.Nodes name w) := by
  obtain ⟨v0, rfl, h0⟩ := Web.ropen h
  obtain ⟨A, c, rfl, _, _⟩ := rep_len h0
  replace h0 := Asd.mk h0
  replace ha := Asd.mk ha
  clear h
  have e1 := enters_of Try.func73 (by kernel_rfl) rfl
  have hb0 : Below w.heap.size w ((w.alloc (.cells #[.slice A x.Nodes.length c] 28)).alloc (.cells #[.string name] 9)) := below_al (below_al (Below.refl _ _) _) _
  have HB := Asd.mk hb0
  have hmf : ∀ (fn : Fn) (first cap : Array Value) (w : World), (Instr.makeFunc fn first cap).run Try.prog w = .ok (.func fn first cap) w := fun _ _ _ _ => rfl
  clear hb0
  go_enter Try.func39, Try.ntmps39
  go_wp2_with fail
  refine (Search_calls 73 #[.pointer (some ⟨w.heap.size, 0, none⟩), .pointer (some ⟨w.heap.size + 1, 0, none⟩)] x.Nodes.length (geB x.Nodes name) _ e1 (by omega) (fun W hW i hi => ?_) (fun a b hab hb h => ?_)).mono ?_
  · refine (findF_calls x.Nodes name A c _ _ i W (h0.out.below (below_st HB.out hW)) hi ?_ ?_).mono ?_
    · rw [hW.cell (by first | (simp; done) | (simp; omega))]; go_simp
    · rw [hW.cell (by first | (simp; done) | (simp; omega))]; go_simp
    · rintro e w' ⟨rfl, hb⟩
      exact ⟨by rw [geB_at hi], hb⟩
  · rw [geB_at hb, Bool.not_eq_true']
    rw [geB_at (show a < x.Nodes.length by omega), Bool.not_eq_true'] at h
    exact asc_ge ha.out name hab hb h
  rintro e w1 ⟨k, hk, p1, p2, rfl, hb⟩
  have hF : FindAt x.Nodes name k := ⟨hk, fun i hi hik => by have := p1 i hik; rw [geB_at hi] at this; simpa using this, fun i hi hik => by have := p2 i hik hi; rw [geB_at hi] at this; simpa using this⟩
  have HW := Asd.mk (below_st HB.out hb)
  obtain ⟨hcx, hfx⟩ := bcell hb
  have hzz : w.heap.size + 1 < w1.heap.size := by have := hb.size; simp at this; omega
  clear hb p1 p2 e1
  by_cases hlt : k < x.Nodes.length
  · obtain ⟨a, c', v2, he, k0, k1, k2, h2, hr⟩ := Node.elem (h0.out.below HW.out) hlt
    cases he
    clear h2 hr k1 k2
    have hiz : (k : Int) < (x.Nodes.length : Int) := by omega
    have ht := hF.there ha.out
    by_cases hq : (x.Nodes[k].Name.toList == name.toList) = true
    · have hT := Asd.mk (show hasN x.Nodes name = true from ht.2 ⟨hlt, (ba_eq _ _).1 hq⟩)
      clear ht
      replace hF := Asd.mk hF
      go_wp2
      go_quiet (fail)
      go_wp2
      go_ret2
      exact ⟨k, hF.out, by rw [hT.out]; rfl, below_dr HW.out _⟩
    · have hT := Asd.mk (show hasN x.Nodes name = false from Bool.eq_false_iff.2 (fun h => by obtain ⟨_, e⟩ := ht.1 h; exact hq ((ba_eq _ _).2 e)))
      clear ht
      replace hq := Bool.eq_false_iff.2 hq
      replace hF := Asd.mk hF
      go_wp2
      go_quiet (fail)
      go_wp2
      go_ret2
      exact ⟨k, hF.out, by rw [hT.out]; rfl, below_dr HW.out _⟩
  · have hiz : ¬(k : Int) < (x.Nodes.length : Int) := by omega
    have hT := Asd.mk (show hasN x.Nodes name = false from Bool.eq_false_iff.2 (fun h => by obtain ⟨h, _⟩ := (hF.there ha.out).1 h; exact hlt h))
    replace hF := Asd.mk hF
    go_wp2
    go_quiet (fail)
    go_wp2
    go_ret2
    exact ⟨k, hF.out, by rw [hT.out]; rfl, below_dr HW.out _⟩
end Go.Proofs.Ytmjfkjdfmpileaa.M
