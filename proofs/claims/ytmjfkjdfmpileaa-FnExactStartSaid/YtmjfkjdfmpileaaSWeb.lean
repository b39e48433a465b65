/- Contracts: the reference's CheckWeb. -/
import Derived.Test.YtmjfkjdfmpileaaSst
import Derived.Test.YtmjfkjdfmpileaaPuW
set_option linter.unusedVariables false
set_option linter.unusedSimpArgs false
namespace Go.Proofs.Ytmjfkjdfmpileaa.M
open Go.RowKit

set_option maxRecDepth 100000 in
set_option maxHeartbeats 2000000 in
theorem sCheckWeb_calls {tN tS tC : Nat} (x : Web) (w : World) {vs : List Value} (h : reps w (x.c tN tS tC) vs) (hz : x.Sm) :
    Calls Try.prog 33 #[.agg vs.toArray] w fun e w' => e = .returned (.int .i64 (checkWeb x)) ∧ Below w.heap.size w w' := by
  have hbox : ∀ o, Below w.heap.size w (w.alloc o) := fun o => (Below.refl _ _).alloc (Nat.le_refl _) o
  obtain ⟨v0, rfl, h0⟩ := Web.ropen h
  obtain ⟨A0, c0, rfl, _, hn⟩ := rep_len h0
  replace h0 := Asd.mk h0
  clear h
  by_cases p1 : 60 < x.Nodes.length
  · have e1 := Hid.mk' (checkWeb1 p1)
    go_enter Try.func33, Try.ntmps33
    go_wp2
    go_ret
    exact ⟨by rw [e1.out]; rfl, hbox _⟩
  go_enter Try.func33, Try.ntmps33
  go_wp2
  go_loopw [3] (fun i wr => ∃ k : Nat, k ≤ x.Nodes.length ∧ i = .int .i64 k ∧ allTo nodeNameOk x.Nodes k ∧ Below w.heap.size w wr ∧ w.heap.size < wr.heap.size ∧ wr.cell? ⟨w.heap.size, 0, none⟩ = some (.slice A0 x.Nodes.length c0)) (fun i _ => x.Nodes.length - (intOf i).toNat)
  case atStart => exact ⟨0, by omega, rfl, allTo_zero _ _, hbox _, by simp, by go_simp⟩
  case round =>
    obtain ⟨k, hk, rfl, hA, hbr, hsz, hcl⟩ := hrel
    by_cases hlt : k < x.Nodes.length
    · obtain ⟨a, c', v2, he, k0, k1, k2, h2, hr⟩ := Node.elem (h0.out.below hbr) hlt
      cases he
      obtain ⟨B2, b2, rfl, _, _⟩ := rep_len h2
      clear h2 hr
      by_cases hx : nameOk x.Nodes[k].Name = true
      · have e1 := allTo_succ (p := nodeNameOk) hA hlt hx
        go_wp2_with (first | (go_at_call 34; refine (l1NameOk_calls _ _).mono ?_; rintro e w' ⟨rfl, rfl⟩))
        go_roundw
        case rel => exact ⟨k + 1, by omega, by go_num, e1, hbr, hsz, hcl⟩
        case measure => simp [intOf]; omega
      · have e1 := Hid.mk' (checkWeb2 p1 (allTo_not (p := nodeNameOk) hlt (Bool.eq_false_iff.2 hx)))
        go_wp2_with (first | (go_at_call 34; refine (l1NameOk_calls _ _).mono ?_; rintro e w' ⟨rfl, rfl⟩))
        go_ret
        exact ⟨by rw [e1.out]; rfl, hbr⟩
    · obtain rfl : k = x.Nodes.length := by omega
      have hA1 := Hid.mk' (allTo_end hA)
      obtain ⟨wo, hwo⟩ : ∃ wo : World, wo = wr := ⟨_, rfl⟩
      subst hwo
      go_wp2
      go_loopw [4] (fun i wr => ∃ k : Nat, (k = 0 ∨ k + 1 ≤ x.Nodes.length) ∧ i = .int .i64 (k + 1) ∧ ascTo x.Nodes k ∧ Below w.heap.size w wr ∧ w.heap.size < wr.heap.size ∧ wr.cell? ⟨w.heap.size, 0, none⟩ = some (.slice A0 x.Nodes.length c0)) (fun i _ => x.Nodes.length - (intOf i).toNat)
      case atStart => exact ⟨0, .inl rfl, rfl, ascTo_zero _, hbr, hsz, hcl⟩
      case round =>
        obtain ⟨k, hk, rfl, hA, hbr, hsz, hcl⟩ := hrel
        by_cases hlt : k + 1 < x.Nodes.length
        · obtain ⟨a, c', v2, he, k0, k1, k2, h2, hr⟩ := Node.elem (h0.out.below hbr) (show k < x.Nodes.length by omega)
          cases he
          obtain ⟨a, c', u2, he, m0, m1, m2, g2, gr⟩ := Node.elem (h0.out.below hbr) hlt
          cases he
          clear h2 hr g2 gr k1 k2 m1 m2
          have i1 : (0 : Int) ≤ (k : Int) := by omega
          have i2 : (k : Int) < (x.Nodes.length : Int) := by omega
          have i3 : ((k : Int) + 1) < (x.Nodes.length : Int) := by omega
          by_cases hq : Op.bytesLess x.Nodes[k].Name.toList x.Nodes[k + 1].Name.toList = true
          · have e1 := ascTo_succ hA hlt hq
            go_wp2
            go_quiet (fail)
            go_wp2
            go_roundw
            case rel => exact ⟨k + 1, .inr (by omega), by go_num, e1, below_dr hbr _, hsz, hcl⟩
            case measure => simp [intOf]; omega
          · replace hq := Bool.eq_false_iff.2 hq
            have e1 := Hid.mk' (checkWeb3 p1 hA1.out (ascB_not hlt hq))
            go_wp2
            go_quiet (fail)
            go_wp2
            go_ret
            exact ⟨by rw [e1.out]; rfl, below_dr hbr _⟩
        · have hA2 := Hid.mk' (ascTo_end hA (by omega))
          obtain ⟨wo, hwo⟩ : ∃ wo : World, wo = wr := ⟨_, rfl⟩
          subst hwo
          have i3 : ¬((k : Int) + 1) < (x.Nodes.length : Int) := by omega
          go_wp2
          go_loopw [5] (fun i wr => ∃ k : Nat, k ≤ x.Nodes.length ∧ i = .int .i64 k ∧ allTo nodeActOk x.Nodes k ∧ Below w.heap.size w wr ∧ w.heap.size < wr.heap.size ∧ wr.cell? ⟨w.heap.size, 0, none⟩ = some (.slice A0 x.Nodes.length c0)) (fun i _ => x.Nodes.length - (intOf i).toNat)
          case atStart => exact ⟨0, by omega, rfl, allTo_zero _ _, hbr, hsz, hcl⟩
          case round =>
            clear i3 hA hlt hk hsz hcl hbr
            obtain ⟨k, hk, rfl, hA, hbr, hsz, hcl⟩ := hrel
            by_cases hlt : k < x.Nodes.length
            · obtain ⟨a, c', v2, he, k0, k1, k2, h2, hr⟩ := Node.elem (h0.out.below hbr) hlt
              cases he
              obtain ⟨B2, b2, rfl, _, _⟩ := rep_len h2
              replace h2 := Asd.mk h2
              clear hr
              have hsm := hz _ (List.getElem_mem hlt)
              by_cases hx : actionOk x.Nodes[k].Action = true
              · have e1 := allTo_succ (p := nodeActOk) hA hlt hx
                go_wp2_with (first | (go_at_call 45; refine (sValidAction_calls x.Nodes[k].Action _ (Action.rmk _ h2.out) hsm).mono ?_; rintro e w2 ⟨rfl, hb2⟩))
                go_roundw
                case rel => exact ⟨k + 1, by omega, by go_num, e1, below_st hbr hb2, by have := hb2.size; omega, by rw [hb2.cell (by simp; omega)]; exact hcl⟩
                case measure => simp [intOf]; omega
              · have e1 := Hid.mk' (checkWeb4 p1 hA1.out hA2.out (allTo_not (p := nodeActOk) hlt (Bool.eq_false_iff.2 hx)))
                go_wp2_with (first | (go_at_call 45; refine (sValidAction_calls x.Nodes[k].Action _ (Action.rmk _ h2.out) hsm).mono ?_; rintro e w2 ⟨rfl, hb2⟩))
                go_ret
                exact ⟨by rw [e1.out]; rfl, below_st hbr hb2⟩
            · obtain rfl : k = x.Nodes.length := by omega
              have e1 := Hid.mk' (checkWeb0 p1 hA1.out hA2.out (allTo_end hA))
              go_wp2
              go_ret
              exact ⟨by rw [e1.out]; rfl, hbr⟩

end Go.Proofs.Ytmjfkjdfmpileaa.M
