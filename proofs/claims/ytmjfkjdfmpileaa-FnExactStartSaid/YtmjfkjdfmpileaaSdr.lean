/- Contracts: the reference's search by name, its web without a node, its DropNode. -/
import Derived.Test.YtmjfkjdfmpileaaSdn
import Derived.Test.YtmjfkjdfmpileaaReg
set_option linter.unusedVariables false
set_option linter.unusedSimpArgs false
attribute [local go_sem ↓] Go.wp_at_zero Go.wp_at_succ
namespace Go.Proofs.Ytmjfkjdfmpileaa.M
open Go.RowKit
set_option maxHeartbeats 1000000 in
theorem l2At_calls {tN tS tC : Nat} (x : Web) (name : ByteArray) (w : World) {vs : List Value} (h : reps w (x.c tN tS tC) vs) :
    Calls Try.prog 35 #[.agg vs.toArray, .string name] w fun e w' => e = .returned (.int .i64 (atN x.Nodes name)) ∧ Below w.heap.size w w' := by
  obtain ⟨v0, rfl, h0⟩ := Web.ropen h
  obtain ⟨A, c, rfl, _, hle⟩ := rep_len h0
  replace h0 := Asd.mk h0
  clear h
  go_enter Try.func35, Try.ntmps35
  go_wp2
  go_loop [5] (fun i => ∃ k : Nat, k ≤ x.Nodes.length ∧ i = .int .i64 k ∧ noTo x.Nodes name k) (fun i => x.Nodes.length - (intOf i).toNat)
  case atStart => exact ⟨0, by omega, rfl, noTo_zero _ _⟩
  case round =>
    obtain ⟨k, hk, rfl, hA⟩ := hrel
    by_cases hlt : k < x.Nodes.length
    · obtain ⟨a, c', v2, he, k0, k1, k2, h2, hr⟩ := Node.elem (h0.out.below (below_al (Below.refl _ _) (.cells #[.slice A x.Nodes.length c] 28))) hlt
      cases he
      clear h2 hr k1 k2
      by_cases hq : (x.Nodes[k].Name.toList == name.toList) = true
      · have e1 := Asd.mk (atN_yes hA hlt hq)
        go_wp2
        go_ret
        exact ⟨by rw [e1.out]; rfl, below_al (Below.refl _ _) _⟩
      · replace hq := Bool.eq_false_iff.2 hq
        have e1 := noTo_succ hA hlt hq
        go_wp2
        go_round
        case rel => exact ⟨k + 1, by omega, by go_num, e1⟩
        case measure => simp [intOf]; omega
    · obtain rfl : k = x.Nodes.length := by omega
      have e1 := Asd.mk (atN_no hA)
      go_wp2
      go_ret
      exact ⟨by rw [e1.out]; rfl, below_al (Below.refl _ _) _⟩
set_option maxRecDepth 100000 in
set_option maxHeartbeats 4000000 in
theorem l2Without_calls {tN tS tC : Nat} (x : Web) (name : ByteArray) (w : World) {vs : List Value} (h : reps w (x.c tN tS tC) vs) (hn : x.Nodes.length ≤ 1000000) (hb : ∀ n ∈ x.Nodes, n.Action.Steps.length ≤ 1000000 ∧ ∀ s ∈ n.Action.Steps, s.Bd) :
    Calls Try.prog 36 #[.agg vs.toArray, .string name] w (MadeA w (Web.c 46 108 112 ⟨dropNodes x.Nodes name⟩)) := by
  obtain ⟨v1, rfl, h1⟩ := Web.ropen h
  obtain ⟨A, c, rfl, _, _⟩ := rep_len h1
  replace h1 := Asd.mk h1
  replace hb := Asd.mk hb
  clear h
  go_enter Try.func36, Try.ntmps36
  go_wp2
  obtain ⟨W, hW⟩ : ∃ W : World, W = (w.alloc (.cells #[.slice A x.Nodes.length c] 28)).alloc (.cells #[.slice none 0 0] 28) := ⟨_, rfl⟩
  rw [← hW]
  have sW : W.heap.size = w.heap.size + 1 + 1 := by rw [hW]; simp
  have HW := Asd.mk (show Below w.heap.size w W by rw [hW]; exact below_al (below_al (Below.refl _ _) _) _)
  have c0 : W.cell? ⟨w.heap.size, 0, none⟩ = some (.slice A x.Nodes.length c) := by rw [hW]; go_simp
  have c1 : W.cell? ⟨w.heap.size + 1, 0, none⟩ = some (.slice none 0 0) := by rw [hW]; go_simp
  have c3 : ∀ o, W.frozen? ⟨w.heap.size + 1, o, none⟩ = false := by intro o; rw [hW]; go_simp
  clear hW
  replace c0 := Asd.mk c0
  replace c1 := Asd.mk c1
  replace c3 := Asd.mk c3
  go_loopw [6] (fun i wr => ∃ (k : Nat) (v : Value), k ≤ x.Nodes.length ∧ i = .int .i64 k ∧ wr.cell? ⟨w.heap.size + 1 + 1, 0, none⟩ = some v ∧ (∀ o, wr.frozen? ⟨w.heap.size + 1 + 1, o, none⟩ = false) ∧ Lie (w.heap.size + 1 + 1 + 1) wr (NodesT 46 108 112 (filTo (neN name) x.Nodes k)) v ∧ Below W.heap.size W wr ∧ w.heap.size + 1 + 1 < wr.heap.size) (fun i _ => x.Nodes.length - (intOf i).toNat)
  case atStart => exact ⟨0, .slice none 0 0, by omega, rfl, by rw [← sW]; go_simp, fun o => by rw [← sW]; go_simp, Lie.nil _ _ _ _, by repeat (first | (with_reducible exact Below.refl _ _) | (with_reducible exact Below.refl _ _) | (with_reducible refine below_al ?_ _) | (with_reducible refine below_dr ?_ _) | (with_reducible refine below_d1 ?_) | ((with_reducible refine Below.setCell ?_ ?_ _); rotate_left; (next => first | (simp; done) | (simp; omega) | omega))), by simp; omega⟩
  case round =>
    obtain ⟨k, v, hk, rfl, b0, f0, hL, hbr, hsz⟩ := hrel
    have d0 := (hbr.cell (p := ⟨w.heap.size, 0, none⟩) (by simp; omega)).trans c0.out
    have s0 : w.heap.size < wr.heap.size := by omega
    have s1 : w.heap.size + 1 < wr.heap.size := by omega
    by_cases hlt : k < x.Nodes.length
    · obtain ⟨ad, c', v2, he, k0, k1, k2, g2, hr⟩ := Node.elem (h1.out.below HW.out) hlt
      cases he
      clear hr
      obtain ⟨B2, d2, rfl, _, _⟩ := rep_len g2
      replace g2 := Asd.mk g2
      obtain ⟨R, d, rfl, hRd, _⟩ := hL.slice
      have hS : ∀ X, Below W.heap.size W X → X.cell? ⟨w.heap.size + 1 + 1, 0, none⟩ = some (.slice R (filTo (neN name) x.Nodes k).length d) → (X.cell? ⟨w.heap.size, 0, none⟩ = some (.slice (some ad) x.Nodes.length c) ∧ X.cell? (ad.add (k * 3)) = some (.string x.Nodes[k].Name) ∧ X.cell? ⟨(ad.add (k * 3)).block, (ad.add (k * 3)).off + 1, none⟩ = some (.int .i64 x.Nodes[k].Action.Cost) ∧ X.cell? ⟨(ad.add (k * 3)).block, (ad.add (k * 3)).off + 2, none⟩ = some (.slice B2 x.Nodes[k].Action.Steps.length d2) ∧ X.cell? ⟨w.heap.size + 1 + 1, 0, none⟩ = some (.slice R (filTo (neN name) x.Nodes k).length d)) := fun X hX hR => ⟨cell_below hX c0.out, cell_below hX k0, cell_below hX k1, cell_below hX k2, hR⟩
      replace hS := Asd.mk hS
      obtain ⟨m0, m1, m2, m3, _⟩ := hS.out wr hbr b0
      have hbd := hb.out _ (List.getElem_mem hlt)
      have hlen := filTo_len (neN name) x.Nodes k
      have i0 : (0 : Int) ≤ (k : Int) := by omega
      have i1 : (k : Int) < (x.Nodes.length : Int) := by omega
      clear k0 k1 k2
      replace hL := Asd.mk hL
      replace hbr := Asd.mk hbr
      by_cases hq : (x.Nodes[k].Name.toList == name.toList) = true
      · have e2 := Asd.mk (filTo_no (p := neN name) hlt (by simp [neN, hq]))
        go_wp2
        go_roundw
        case rel => exact ⟨k + 1, .slice R (filTo (neN name) x.Nodes k).length d, by omega, by go_num, by go_simp, fun o => by go_simp, by rw [e2.out]; exact hL.out, hbr.out, by omega⟩
        case measure => simp [intOf]; omega
      · replace hq := Bool.eq_false_iff.2 hq
        have e2 := Asd.mk (filTo_yes (p := neN name) hlt (by simp [neN, hq]))
        go_wp2
        refine wp_region_G (last := 19) (S := (fun X => X.cell? ⟨w.heap.size, 0, none⟩ = some (.slice (some ad) x.Nodes.length c) ∧ X.cell? (ad.add (k * 3)) = some (.string x.Nodes[k].Name) ∧ X.cell? ⟨(ad.add (k * 3)).block, (ad.add (k * 3)).off + 1, none⟩ = some (.int .i64 x.Nodes[k].Action.Cost) ∧ X.cell? ⟨(ad.add (k * 3)).block, (ad.add (k * 3)).off + 2, none⟩ = some (.slice B2 x.Nodes[k].Action.Steps.length d2) ∧ X.cell? ⟨w.heap.size + 1 + 1, 0, none⟩ = some (.slice R (filTo (neN name) x.Nodes k).length d))) (by kernel_rfl) ?_
        have hH := hS.out wr.drew (by repeat (first | (with_reducible exact Below.refl _ _) | (with_reducible exact hbr.out) | (with_reducible refine below_al ?_ _) | (with_reducible refine below_dr ?_ _) | (with_reducible refine below_d1 ?_) | ((with_reducible refine Below.setCell ?_ ?_ _); rotate_left; (next => first | (simp; done) | (simp; omega) | omega)))) (by go_simp)
        ((refine wpG_take (i := 0) (v := ?_) rfl rfl (by kernel_rfl) (by kernel_rfl) (by kernel_rfl) (by kernel_rfl) (fun _ _ _ h => h) (Or.inl ⟨by rfl, ?_⟩) (by assumption) ?_; rotate_left; (next => ((intro X hX; (try dsimp only at hX); go_simp); try with_reducible rfl))); (try simp only [Act.put, List.setIfInBounds_toArray, List.set_cons_zero, List.set_cons_succ]); (refine wpG_take (i := 1) (v := ?_) rfl rfl (by kernel_rfl) (by kernel_rfl) (by kernel_rfl) (by kernel_rfl) (fun _ _ _ h => h) (Or.inl ⟨by rfl, ?_⟩) (by assumption) ?_; rotate_left; (next => ((intro X hX; (try dsimp only at hX); go_simp); try with_reducible rfl))); (try simp only [Act.put, List.setIfInBounds_toArray, List.set_cons_zero, List.set_cons_succ]); (refine wpG_take (i := 2) (v := ?_) rfl rfl (by kernel_rfl) (by kernel_rfl) (by kernel_rfl) (by kernel_rfl) (fun _ _ _ h => h) (Or.inl ⟨by rfl, ?_⟩) (by assumption) ?_; rotate_left; (next => ((intro X hX; (try dsimp only at hX); go_simp); try with_reducible rfl))); (try simp only [Act.put, List.setIfInBounds_toArray, List.set_cons_zero, List.set_cons_succ]); (refine wpG_take (i := 3) (v := ?_) rfl rfl (by kernel_rfl) (by kernel_rfl) (by kernel_rfl) (by kernel_rfl) (fun _ _ _ h => h) (Or.inl ⟨by rfl, ?_⟩) (by assumption) ?_; rotate_left; (next => ((intro X hX; (try dsimp only at hX); go_simp); try with_reducible rfl))); (try simp only [Act.put, List.setIfInBounds_toArray, List.set_cons_zero, List.set_cons_succ]); (refine wpG_take (i := 4) (v := ?_) rfl rfl (by kernel_rfl) (by kernel_rfl) (by kernel_rfl) (by kernel_rfl) (fun _ _ _ h => h) (Or.inl ⟨by rfl, ?_⟩) (by assumption) ?_; rotate_left; (next => ((intro X hX; (try dsimp only at hX); go_simp); try with_reducible rfl))); (try simp only [Act.put, List.setIfInBounds_toArray, List.set_cons_zero, List.set_cons_succ]); (refine wpG_take (i := 5) (v := ?_) rfl rfl (by kernel_rfl) (by kernel_rfl) (by kernel_rfl) (by kernel_rfl) (fun _ _ _ h => h) (Or.inl ⟨by rfl, ?_⟩) (by assumption) ?_; rotate_left; (next => ((intro X hX; (try dsimp only at hX); go_simp); try with_reducible rfl))); (try simp only [Act.put, List.setIfInBounds_toArray, List.set_cons_zero, List.set_cons_succ]); (refine wpG_take (i := 6) (v := ?_) rfl rfl (by kernel_rfl) (by kernel_rfl) (by kernel_rfl) (by kernel_rfl) (fun _ _ _ h => h) (Or.inl ⟨by rfl, ?_⟩) (by assumption) ?_; rotate_left; (next => ((intro X hX; (try dsimp only at hX); go_simp); try with_reducible rfl))); (try simp only [Act.put, List.setIfInBounds_toArray, List.set_cons_zero, List.set_cons_succ]); (refine wpG_take (i := 7) (v := ?_) rfl rfl (by kernel_rfl) (by kernel_rfl) (by kernel_rfl) (by kernel_rfl) (fun _ _ _ h => h) (Or.inl ⟨by rfl, ?_⟩) (by assumption) ?_; rotate_left; (next => ((intro X hX; (try dsimp only at hX); go_simp); try with_reducible rfl))); (try simp only [Act.put, List.setIfInBounds_toArray, List.set_cons_zero, List.set_cons_succ]); (refine wpG_take (i := 8) (v := ?_) rfl rfl (by kernel_rfl) (by kernel_rfl) (by kernel_rfl) (by kernel_rfl) (fun _ _ _ h => h) (Or.inl ⟨by rfl, ?_⟩) (by assumption) ?_; rotate_left; (next => ((intro X hX; (try dsimp only at hX); go_simp); try with_reducible rfl))); (try simp only [Act.put, List.setIfInBounds_toArray, List.set_cons_zero, List.set_cons_succ]); (refine wpG_take (i := 9) (v := ?_) rfl rfl (by kernel_rfl) (by kernel_rfl) (by kernel_rfl) (by kernel_rfl) (fun _ _ _ h => h) (Or.inl ⟨by rfl, ?_⟩) (by assumption) ?_; rotate_left; (next => ((intro X hX; (try dsimp only at hX); go_simp); try with_reducible rfl))); (try simp only [Act.put, List.setIfInBounds_toArray, List.set_cons_zero, List.set_cons_succ]); (refine wpG_take (i := 10) (v := ?_) rfl rfl (by kernel_rfl) (by kernel_rfl) (by kernel_rfl) (by kernel_rfl) (fun _ _ _ h => h) (Or.inl ⟨by rfl, ?_⟩) (by assumption) ?_; rotate_left; (next => ((intro X hX; (try dsimp only at hX); go_simp); try with_reducible rfl))); (try simp only [Act.put, List.setIfInBounds_toArray, List.set_cons_zero, List.set_cons_succ]); (refine wpG_take (i := 11) (v := ?_) rfl rfl (by kernel_rfl) (by kernel_rfl) (by kernel_rfl) (by kernel_rfl) (fun _ _ _ h => h) (Or.inl ⟨by rfl, ?_⟩) (by assumption) ?_; rotate_left; (next => ((intro X hX; (try dsimp only at hX); go_simp); try with_reducible rfl))); (try simp only [Act.put, List.setIfInBounds_toArray, List.set_cons_zero, List.set_cons_succ]); (refine wpG_take (i := 12) (v := ?_) rfl rfl (by kernel_rfl) (by kernel_rfl) (by kernel_rfl) (by kernel_rfl) (fun _ _ _ h => h) (Or.inl ⟨by rfl, ?_⟩) (by assumption) ?_; rotate_left; (next => ((intro X hX; (try dsimp only at hX); go_simp); try with_reducible rfl))); (try simp only [Act.put, List.setIfInBounds_toArray, List.set_cons_zero, List.set_cons_succ]); (refine wpG_take (i := 13) (v := ?_) rfl rfl (by kernel_rfl) (by kernel_rfl) (by kernel_rfl) (by kernel_rfl) (fun _ _ _ h => h) (Or.inl ⟨by rfl, ?_⟩) (by assumption) ?_; rotate_left; (next => ((intro X hX; (try dsimp only at hX); go_simp); try with_reducible rfl))); (try simp only [Act.put, List.setIfInBounds_toArray, List.set_cons_zero, List.set_cons_succ]))
        (refine wpG_one (i := 14) (by kernel_rfl) rfl (fun K hK => ?_))
        go_simp
        go_at_call 46
        refine (l1Copy_calls x.Nodes[k].Action _ (Action.rmk _ (g2.out.below (by repeat (first | (with_reducible exact Below.refl _ _) | (with_reducible exact hbr.out) | (with_reducible refine below_al ?_ _) | (with_reducible refine below_dr ?_ _) | (with_reducible refine below_d1 ?_) | ((with_reducible refine Below.setCell ?_ ?_ _); rotate_left; (next => first | (simp; done) | (simp; omega) | omega)))))) hbd.1 hbd.2).mono ?_
        rintro e w5 ⟨us, rfl, hM, hb5_⟩
        have hM2 := Asd.mk (hM.lies.mono (l := wr.heap.size) (by simp))
        obtain ⟨F_, o_, n_, l_⟩ := hM
        obtain ⟨v2_, G2_, rfl, p2_, rfl⟩ := Action.oopen o_
        obtain ⟨D2, d3, rfl, _, _⟩ := own_slice p2_
        clear p2_ n_ l_ o_
        have hb6 := Asd.mk (show Below wr.heap.size wr w5 from below_st (by repeat (first | (with_reducible exact Below.refl _ _) | (with_reducible exact Below.refl _ _) | (with_reducible refine below_al ?_ _) | (with_reducible refine below_dr ?_ _) | (with_reducible refine below_d1 ?_) | ((with_reducible refine Below.setCell ?_ ?_ _); rotate_left; (next => first | (simp; done) | (simp; omega) | omega)))) hb5_)
        have hb5 := Asd.mk (below_st hbr.out hb6.out)
        have b0_ := (hb6.out.cell (p := ⟨w.heap.size + 1 + 1, 0, none⟩) (by simp; omega)).trans b0
        have hsz5 : w.heap.size + 1 + 1 < w5.heap.size := (by have := hb6.out.size; omega)
        clear hb5_
        refine hK.out _ _ (fun _ => hS.out _ hb5.out b0_) ?_
        have hH5 := hS.out _ hb5.out b0_
        clear hK K
        (try simp only [Act.put, List.setIfInBounds_toArray, List.set_cons_zero, List.set_cons_succ])
        ((refine wpG_take (i := 15) (v := ?_) rfl rfl (by kernel_rfl) (by kernel_rfl) (by kernel_rfl) (by kernel_rfl) (fun _ _ _ h => h) (Or.inl ⟨by rfl, ?_⟩) (by assumption) ?_; rotate_left; (next => ((intro X hX; (try dsimp only at hX); go_simp); try with_reducible rfl))); (try simp only [Act.put, List.setIfInBounds_toArray, List.set_cons_zero, List.set_cons_succ]))
        (refine wpG_one (i := 16) (by kernel_rfl) rfl (fun K hK => ?_))
        go_simp
        refine hK.out _ _ (fun _ => hS.out _ (by repeat (first | (with_reducible exact Below.refl _ _) | (with_reducible exact hb5.out) | (with_reducible refine below_al ?_ _) | (with_reducible refine below_dr ?_ _) | (with_reducible refine below_d1 ?_) | ((with_reducible refine Below.setCell ?_ ?_ _); rotate_left; (next => first | (simp; done) | (simp; omega) | omega)))) (by go_simp)) ?_
        clear hK K
        (try simp only [Act.put, List.setIfInBounds_toArray, List.set_cons_zero, List.set_cons_succ])
        (refine wpG_one (i := 17) (by kernel_rfl) rfl (fun K hK => ?_))
        refine step_appL (by rfl) (by rfl) Try.underlying26 info_Node rfl (by decide) (by rfl) (lo := w.heap.size + 1 + 1 + 1) (wr := wr) (by omega) hL.out (by repeat (first | (with_reducible exact Below.refl _ _) | (with_reducible exact hb6.out) | (with_reducible refine below_al ?_ _) | (with_reducible refine below_dr ?_ _) | (with_reducible refine below_d1 ?_) | ((with_reducible refine Below.setCell ?_ ?_ _); rotate_left; (next => first | (simp; done) | (simp; omega) | omega)))) (by rfl) (one_cells (heap_alloc_new _ _)) (by simp) (Lies.below (Node.lies_of hM2.out) (by repeat (first | (with_reducible exact Below.refl _ _) | (with_reducible exact Below.refl _ _) | (with_reducible refine below_al ?_ _) | (with_reducible refine below_dr ?_ _) | (with_reducible refine below_d1 ?_) | ((with_reducible refine Below.setCell ?_ ?_ _); rotate_left; (next => first | (simp; done) | (simp; omega) | omega))))) (by simp [maxLen]; omega) (by omega) ?_
        intro v7 w7 hL7 hF7
        have hb7_ := Far.trans (B := w.heap.size + 1 + 1) (w := wr) (Below.mono (show Below wr.heap.size wr _ from by repeat (first | (with_reducible exact Below.refl _ _) | (with_reducible exact hb6.out) | (with_reducible refine below_al ?_ _) | (with_reducible refine below_dr ?_ _) | (with_reducible refine below_d1 ?_) | ((with_reducible refine Below.setCell ?_ ?_ _); rotate_left; (next => first | (simp; done) | (simp; omega) | omega)))) (by omega)) hF7 (by omega) (by first | (simp; done) | (simp; omega))
        have hb7 := Asd.mk (show Below W.heap.size W w7 from hbr.out.trans (by rw [sW]; exact hb7_))
        have t0_ := (hF7.cell (b := w.heap.size + 1 + 1) (o := 0) (by first | (simp; done) | (simp; omega)) (.inl (by omega))).trans (by go_simp : _ = some (.slice R (filTo (neN name) x.Nodes k).length d))
        have t4_ := fun o => (hF7.frozen (b := w.heap.size + 1 + 1) (o := o) (by first | (simp; done) | (simp; omega)) (.inl (by omega))).trans (((show Below wr.heap.size wr _ from by repeat (first | (with_reducible exact Below.refl _ _) | (with_reducible exact hb6.out) | (with_reducible refine below_al ?_ _) | (with_reducible refine below_dr ?_ _) | (with_reducible refine below_d1 ?_) | ((with_reducible refine Below.setCell ?_ ?_ _); rotate_left; (next => first | (simp; done) | (simp; omega) | omega)))).frozen (p := ⟨w.heap.size + 1 + 1, o, none⟩) (by simp; omega)).trans (f0 o))
        have z7 : w.heap.size + 1 + 1 < w7.heap.size := by have := hF7.size; simp at this; omega
        obtain ⟨R7, d7, rfl, _, _⟩ := hL7.slice
        replace hL7 := Asd.mk hL7
        clear hF7 hb7_
        refine hK.out _ _ (fun _ => hS.out _ hb7.out t0_) ?_
        have hH7 := hS.out _ hb7.out t0_
        clear hK K
        (try simp only [Act.put, List.setIfInBounds_toArray, List.set_cons_zero, List.set_cons_succ])
        ((refine wpG_take (i := 18) (v := ?_) rfl rfl (by kernel_rfl) (by kernel_rfl) (by kernel_rfl) (by kernel_rfl) (fun _ _ _ h => h) (Or.inl ⟨by rfl, ?_⟩) (by assumption) ?_; rotate_left; (next => ((intro X hX; (try dsimp only at hX); go_simp); try with_reducible rfl))); (try simp only [Act.put, List.setIfInBounds_toArray, List.set_cons_zero, List.set_cons_succ]))
        (refine wpG_one (i := 19) (by kernel_rfl) rfl (fun K hK => ?_))
        go_simp
        refine hK.out _ _ (fun h => absurd rfl h) ?_
        clear hK K
        refine wpG_done (by kernel_rfl) ?_ _
        go_wp2
        go_roundw
        case rel => exact ⟨k + 1, .slice R7 ((filTo (neN name) x.Nodes k).length + 1) d7, by omega, by go_num, by go_simp, fun o => by go_simp, by rw [e2.out, NodesT_snoc]; exact hL7.out.set (by simp) _, by repeat (first | (with_reducible exact Below.refl _ _) | (with_reducible exact hb7.out) | (with_reducible refine below_al ?_ _) | (with_reducible refine below_dr ?_ _) | (with_reducible refine below_d1 ?_) | ((with_reducible refine Below.setCell ?_ ?_ _); rotate_left; (next => first | (simp; done) | (simp; omega) | omega))), by simp; omega⟩
        case measure => simp [intOf]; omega
    · obtain rfl : k = x.Nodes.length := by omega
      have E2_ := Asd.mk (filTo_end (neN name) x.Nodes)
      obtain ⟨R, d, rfl, hRd, _⟩ := hL.slice
      have c1' := (hbr.cell (p := ⟨w.heap.size + 1, 0, none⟩) (by simp; omega)).trans c1.out
      have c3' : ∀ o, wr.frozen? ⟨w.heap.size + 1, o, none⟩ = false := fun o => (hbr.frozen (p := ⟨w.heap.size + 1, o, none⟩) (by simp; omega)).trans (c3.out o)
      replace hL := Asd.mk hL
      replace hbr := Asd.mk hbr
      go_wp2
      refine bodyPost_ret (v := .agg #[.slice R (filTo (neN name) x.Nodes x.Nodes.length).length d]) (by simp [results, Try.results36, go_sem, *]) rfl ?_
      have hq := Asd.mk (below_st HW.out hbr.out)
      have hL' := hL.out.set (p := ⟨w.heap.size + 1, 0, none⟩) (by simp) (.slice R (filTo (neN name) x.Nodes x.Nodes.length).length d)
      rw [E2_.out] at hL' ⊢
      obtain ⟨F, o1, n1, l1⟩ := hL'
      exact ⟨_, rfl, ⟨F, Web.omk ⟨dropNodes x.Nodes name⟩ o1, n1, fun k hk => by have := l1 k hk; omega⟩, by repeat (first | (with_reducible exact Below.refl _ _) | (with_reducible exact hq.out) | (with_reducible refine below_al ?_ _) | (with_reducible refine below_dr ?_ _) | (with_reducible refine below_d1 ?_) | ((with_reducible refine Below.setCell ?_ ?_ _); rotate_left; (next => first | (simp; done) | (simp; omega) | omega)))⟩
set_option maxRecDepth 100000 in
set_option maxHeartbeats 2000000 in
theorem sDropNode_calls {tN tS tC : Nat} (x : Web) (name : ByteArray) (w : World) {vs : List Value} (h : reps w (x.c tN tS tC) vs) (hz : x.Sm) :
    Calls Try.prog 8 #[.agg vs.toArray, .string name] w (WebPost (dropWeb x name) w) := by
  obtain ⟨v0, rfl, h0⟩ := Web.ropen h
  obtain ⟨A, c, rfl, _, _⟩ := rep_len h0
  replace h0 := Asd.mk h0
  clear h
  have HB := Asd.mk (below_al (below_al (Below.refl w.heap.size w) (.cells #[.slice A x.Nodes.length c] 28)) (.cells #[.slice none 0 0] 28))
  by_cases q1 : checkWeb x = 0
  rotate_left
  · have e1 := Asd.mk (show dropWeb x name = (⟨[]⟩, 1) by rw [dropWeb, if_pos q1])
    obtain ⟨n, hn⟩ : ∃ n, checkWeb x = n := ⟨_, rfl⟩
    have q2 : decide (n = 0) = false := by simp [← hn, q1]
    go_enter Try.func8, Try.ntmps8
    go_wp2_with fail
    refine (sCheckWeb_calls x _ (Web.rmk x (h0.out.below HB.out)) hz).mono ?_
    rintro e w1 ⟨rfl, hb⟩
    obtain ⟨hcx, hfx⟩ := bcell hb
    have hzz : w.heap.size + 1 < w1.heap.size := by have := hb.size; simp at this; omega
    have hzy : w.heap.size < w1.heap.size := by omega
    have HW := Asd.mk (below_st HB.out hb)
    clear hb
    rw [hn]
    replace q1 : n ≠ 0 := hn ▸ q1
    clear hn
    go_wp2
    refine bodyPost_ret (v := .tuple #[.agg #[.slice none 0 0], .int .i64 1]) (by simp [results, Try.results8, go_sem, *]) rfl ?_
    rw [e1.out]
    exact ⟨_, rfl, Lie.nil _ _ _ _, by repeat (first | (with_reducible exact Below.refl _ _) | (with_reducible exact HW.out) | (with_reducible refine below_al ?_ _) | (with_reducible refine below_dr ?_ _) | (with_reducible refine below_d1 ?_) | ((with_reducible refine Below.setCell ?_ ?_ _); rotate_left; (next => first | (simp; done) | (simp; omega) | omega)))⟩
  obtain ⟨hl, hA1, hA2, _⟩ := checkWeb_ok q1
  by_cases q2 : nameOk name = true
  rotate_left
  · have e1 := Asd.mk (show dropWeb x name = (⟨[]⟩, 2) by rw [dropWeb, if_neg (by simp [q1]), if_pos (Bool.eq_false_iff.2 q2)])
    go_enter Try.func8, Try.ntmps8
    go_wp2_with fail
    refine (sCheckWeb_calls x _ (Web.rmk x (h0.out.below HB.out)) hz).mono ?_
    rintro e w1 ⟨rfl, hb⟩
    obtain ⟨hcx, hfx⟩ := bcell hb
    have hzz : w.heap.size + 1 < w1.heap.size := by have := hb.size; simp at this; omega
    have hzy : w.heap.size < w1.heap.size := by omega
    have HW := Asd.mk (below_st HB.out hb)
    clear hb
    rw [q1]
    go_wp2_with (first | (go_at_call 34; refine (l1NameOk_calls _ _).mono ?_; rintro e w' ⟨rfl, rfl⟩))
    refine bodyPost_ret (v := .tuple #[.agg #[.slice none 0 0], .int .i64 2]) (by simp [results, Try.results8, go_sem, *]) rfl ?_
    rw [e1.out]
    exact ⟨_, rfl, Lie.nil _ _ _ _, by repeat (first | (with_reducible exact Below.refl _ _) | (with_reducible exact HW.out) | (with_reducible refine below_al ?_ _) | (with_reducible refine below_dr ?_ _) | (with_reducible refine below_d1 ?_) | ((with_reducible refine Below.setCell ?_ ?_ _); rotate_left; (next => first | (simp; done) | (simp; omega) | omega)))⟩
  obtain ⟨n, hn⟩ : ∃ n, atN x.Nodes name = n := ⟨_, rfl⟩
  by_cases q3 : hasN x.Nodes name = true
  rotate_left
  · have e1 := Asd.mk (show dropWeb x name = (⟨[]⟩, 4) by rw [dropWeb, if_neg (by simp [q1]), if_neg (by simp [q2]), if_pos (Bool.eq_false_iff.2 q3)])
    have q4 : n < 0 := by rw [← hn, atN_neg]; exact Bool.eq_false_iff.2 q3
    go_enter Try.func8, Try.ntmps8
    go_wp2_with fail
    refine (sCheckWeb_calls x _ (Web.rmk x (h0.out.below HB.out)) hz).mono ?_
    rintro e w1 ⟨rfl, hb⟩
    obtain ⟨hcx, hfx⟩ := bcell hb
    have hzz : w.heap.size + 1 < w1.heap.size := by have := hb.size; simp at this; omega
    have hzy : w.heap.size < w1.heap.size := by omega
    have HW := Asd.mk (below_st HB.out hb)
    clear hb
    rw [q1]
    go_wp2_with (first | (go_at_call 34; refine (l1NameOk_calls _ _).mono ?_; rintro e w' ⟨rfl, rfl⟩))
    refine (l2At_calls x name _ (Web.rmk x (h0.out.below HW.out))).mono ?_
    rintro e w2 ⟨rfl, hb⟩
    rw [hn]
    clear hn
    obtain ⟨hcx2, hfx2⟩ := bcell hb
    have hzz2 : w.heap.size + 1 < w2.heap.size := by have := hb.size; omega
    replace HW := Asd.mk (below_st HW.out hb)
    clear hb
    go_wp2
    refine bodyPost_ret (v := .tuple #[.agg #[.slice none 0 0], .int .i64 4]) (by simp [results, Try.results8, go_sem, *]) rfl ?_
    rw [e1.out]
    exact ⟨_, rfl, Lie.nil _ _ _ _, by repeat (first | (with_reducible exact Below.refl _ _) | (with_reducible exact HW.out) | (with_reducible refine below_al ?_ _) | (with_reducible refine below_dr ?_ _) | (with_reducible refine below_d1 ?_) | ((with_reducible refine Below.setCell ?_ ?_ _); rotate_left; (next => first | (simp; done) | (simp; omega) | omega)))⟩
  have e1 := Asd.mk (show dropWeb x name = (⟨dropNodes x.Nodes name⟩, 0) by rw [dropWeb, if_neg (by simp [q1]), if_neg (by simp [q2]), if_neg (by simp [q3])])
  have q4 : ¬n < 0 := by
    rw [← hn]; intro h
    rw [atN_neg] at h; rw [h] at q3; cases q3
  have hbd := Asd.mk (fun (n : Node) (hn : n ∈ x.Nodes) => (show n.Action.Steps.length ≤ 1000000 ∧ ∀ s ∈ n.Action.Steps, s.Bd from by
    obtain ⟨i, hi, rfl⟩ := List.getElem_of_mem hn
    have := web_bd q1 hi
    exact ⟨by omega, this.2⟩))
  go_enter Try.func8, Try.ntmps8
  go_wp2_with fail
  refine (sCheckWeb_calls x _ (Web.rmk x (h0.out.below HB.out)) hz).mono ?_
  rintro e w1 ⟨rfl, hb⟩
  obtain ⟨hcx, hfx⟩ := bcell hb
  have hzz : w.heap.size + 1 < w1.heap.size := by have := hb.size; simp at this; omega
  have hzy : w.heap.size < w1.heap.size := by omega
  have HW := Asd.mk (below_st HB.out hb)
  clear hb
  rw [q1]
  go_wp2_with (first | (go_at_call 34; refine (l1NameOk_calls _ _).mono ?_; rintro e w' ⟨rfl, rfl⟩))
  refine (l2At_calls x name _ (Web.rmk x (h0.out.below HW.out))).mono ?_
  rintro e w2 ⟨rfl, hb⟩
  rw [hn]
  clear hn
  have b0 : w2.cell? ⟨w.heap.size, 0, none⟩ = some (.slice A x.Nodes.length c) := by rw [hb.cell (by simp; omega), hcx _ _ (by simp; omega)]; go_simp
  have b1 : w2.cell? ⟨w.heap.size + 1, 0, none⟩ = some (.slice none 0 0) := by rw [hb.cell (by simp; omega), hcx _ _ (by simp)]; go_simp
  have f1 : w2.frozen? ⟨w.heap.size + 1, 0, none⟩ = false := by rw [hb.frozen (by simp; omega), hfx _ _ (by simp)]; go_simp
  have hzz2 : w.heap.size + 1 < w2.heap.size := by have := hb.size; omega
  have hzz3 : w.heap.size < w2.heap.size := by have := hb.size; omega
  replace HW := Asd.mk (below_st HW.out hb)
  clear hb hcx hfx
  go_wp2_with fail
  refine (l2Without_calls x name _ (Web.rmk x (h0.out.below HW.out)) (by omega) hbd.out).mono ?_
  rintro e w3 ⟨us, rfl, ⟨F, o1, n1, l1⟩, hb⟩
  obtain ⟨v3, F3, rfl, o3, rfl⟩ := Web.oopen o1
  obtain ⟨A3, c3, rfl, _, _⟩ := own_slice o3
  clear o1
  obtain ⟨hcx, hfx⟩ := bcell hb
  have hzz4 := hb.size
  replace HW := Asd.mk (below_st HW.out hb)
  replace o3 := Asd.mk o3
  replace l1 := Asd.mk l1
  replace n1 := Asd.mk n1
  clear hb
  go_wp2
  refine bodyPost_ret (v := .tuple #[.agg #[.slice A3 (dropNodes x.Nodes name).length c3], .int .i64 0]) (by simp [results, Try.results8, go_sem, *]) rfl ?_
  rw [e1.out]
  exact ⟨_, rfl, ⟨F, o3.out.set (p := ⟨w.heap.size + 1, 0, none⟩) (fun hk => by have := l1.out _ hk; simp at this; omega) _, n1.out, fun k hk => by have := l1.out k hk; omega⟩, by repeat (first | (with_reducible exact Below.refl _ _) | (with_reducible exact HW.out) | (with_reducible refine below_al ?_ _) | (with_reducible refine below_dr ?_ _) | (with_reducible refine below_d1 ?_) | ((with_reducible refine Below.setCell ?_ ?_ _); rotate_left; (next => first | (simp; done) | (simp; omega) | omega)))⟩
end Go.Proofs.Ytmjfkjdfmpileaa.M
