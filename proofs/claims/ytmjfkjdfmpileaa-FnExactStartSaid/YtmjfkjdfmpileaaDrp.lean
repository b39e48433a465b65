/- Contracts: DropNode. -/
import Derived.Test.YtmjfkjdfmpileaaCpn
import Derived.Test.YtmjfkjdfmpileaaFnd
import Derived.Test.YtmjfkjdfmpileaaAcc
import Derived.Test.YtmjfkjdfmpileaaWeb
import Derived.Test.YtmjfkjdfmpileaaInfB
import Derived.Deep.RegionHeld3
import Derived.Deep.RegionLaw
import Derived.BigRegion
import Derived.Deep.DrawnRows
set_option linter.unusedVariables false
set_option linter.unusedSimpArgs false
attribute [local go_sem ↓] Go.wp_at_zero Go.wp_at_succ
namespace Go.Proofs.Ytmjfkjdfmpileaa.M
open Go.RowKit
theorem stepOk_bd {s : Step} {n : Int} (h : stepOk s n = true) : s.Bd := by
  unfold stepOk at h
  split at h
  · simp [endOk] at h
    obtain ⟨⟨⟨⟨⟨_, h1⟩, _⟩, h2⟩, _⟩, _⟩ := h
    unfold Step.Bd; rw [h1, h2]; simp
  · simp only [Bool.and_eq_true] at h
    obtain ⟨_, _, h3, h4, _⟩ := preOk_iff h.1.1.1
    exact ⟨by omega, by omega⟩
theorem actionOk_bd {a : Action} (h : actionOk a = true) : a.Steps.length ≤ 20 ∧ ∀ s ∈ a.Steps, s.Bd := by
  unfold actionOk at h
  simp only [Bool.and_eq_true, List.all_eq_true] at h
  exact ⟨by have := h.1.2; simp [inB] at this; omega, fun s hs => stepOk_bd (h.2 s hs)⟩
theorem web_bd {w : Web} (h : checkWeb w = 0) {i : Nat} (hi : i < w.Nodes.length) : w.Nodes[i].Action.Steps.length ≤ 20 ∧ ∀ s ∈ w.Nodes[i].Action.Steps, s.Bd := by
  obtain ⟨_, _, _, h4⟩ := checkWeb_ok h
  exact actionOk_bd (List.all_eq_true.1 h4 _ (List.getElem_mem hi))
def WebPost (r : Web × Int) (w : World) (e : Ending) (w' : World) : Prop := ∃ v, e = .returned (.tuple #[.agg #[v], .int .i64 r.2]) ∧ Lie w.heap.size w' (NodesT 46 108 112 r.1.Nodes) v ∧ Below w.heap.size w w'
theorem NodesT_snoc {a b c : Nat} (xs : List Node) (x : Node) : NodesT a b c (xs ++ [x]) = .l a 3 (xs.length + 1) (xs.flatMap (Node.c b c) ++ Node.c b c x) := by
  unfold NodesT tl; rw [List.length_append, List.flatMap_append]; simp
set_option maxRecDepth 100000 in
set_option maxHeartbeats 4000000 in
theorem DropNode_calls {tN tS tC : Nat} (x : Web) (name : ByteArray) (w : World) {vs : List Value} (h : reps w (x.c tN tS tC) vs) (hz : x.Sm) :
    Calls Try.prog 10 #[.agg vs.toArray, .string name] w (WebPost (dropWeb x name) w) := by
  obtain ⟨v0, rfl, h0⟩ := Web.ropen h
  obtain ⟨A, c, rfl, _, _⟩ := rep_len h0
  replace h0 := Asd.mk h0
  clear h
  have HB := Asd.mk (below_al (below_al (Below.refl w.heap.size w) (.cells #[.slice A x.Nodes.length c] 28)) (.cells #[.slice none 0 0] 28))
  by_cases q1 : checkWeb x = 0
  rotate_left
  · have e1 := Asd.mk (show dropWeb x name = (⟨[]⟩, 1) by rw [dropWeb, if_pos q1])
    obtain ⟨n, hn⟩ : ∃ n, checkWeb x = n := ⟨_, rfl⟩
    have q2 : decide (n = 0) = false := by simp [← hn, q1]
    go_enter Try.func10, Try.ntmps10
    go_wp2_with fail
    refine (CheckWeb_calls x _ (Web.rmk x (h0.out.below HB.out)) hz).mono ?_
    rintro e w1 ⟨rfl, hb⟩
    rw [hn]
    replace q1 : n ≠ 0 := hn ▸ q1
    clear hn
    obtain ⟨hcx, hfx⟩ := bcell hb
    have hzz : w.heap.size + 1 < w1.heap.size := by have := hb.size; simp at this; omega
    have HW := Asd.mk (below_st HB.out hb)
    clear hb
    go_wp2
    refine bodyPost_ret (v := .tuple #[.agg #[.slice none 0 0], .int .i64 1]) (by simp [results, Try.results10, go_sem, *]) rfl ?_
    rw [e1.out]
    exact ⟨_, rfl, Lie.nil _ _ _ _, by repeat (first | (with_reducible exact Below.refl _ _) | (with_reducible exact HW.out) | (with_reducible refine below_al ?_ _) | (with_reducible refine below_dr ?_ _) | (with_reducible refine below_d1 ?_) | ((with_reducible refine Below.setCell ?_ ?_ _); rotate_left; (next => first | (simp; done) | (simp; omega) | omega)))⟩
  obtain ⟨hl, hA1, hA2, _⟩ := checkWeb_ok q1
  have hasc := Asd.mk (ascB_asc hA2)
  by_cases q2 : nameOk name = true
  rotate_left
  · have e1 := Asd.mk (show dropWeb x name = (⟨[]⟩, 2) by rw [dropWeb, if_neg (by simp [q1]), if_pos (Bool.eq_false_iff.2 q2)])
    go_enter Try.func10, Try.ntmps10
    go_wp2_with fail
    refine (CheckWeb_calls x _ (Web.rmk x (h0.out.below HB.out)) hz).mono ?_
    rintro e w1 ⟨rfl, hb⟩
    rw [q1]
    obtain ⟨hcx, hfx⟩ := bcell hb
    have hzz : w.heap.size + 1 < w1.heap.size := by have := hb.size; simp at this; omega
    have HW := Asd.mk (below_st HB.out hb)
    clear hb
    go_wp2_with (first | (go_at_call 38; refine (goodName_calls _ _).mono ?_; rintro e w' ⟨rfl, rfl⟩))
    refine bodyPost_ret (v := .tuple #[.agg #[.slice none 0 0], .int .i64 2]) (by simp [results, Try.results10, go_sem, *]) rfl ?_
    rw [e1.out]
    exact ⟨_, rfl, Lie.nil _ _ _ _, by repeat (first | (with_reducible exact Below.refl _ _) | (with_reducible exact HW.out) | (with_reducible refine below_al ?_ _) | (with_reducible refine below_dr ?_ _) | (with_reducible refine below_d1 ?_) | ((with_reducible refine Below.setCell ?_ ?_ _); rotate_left; (next => first | (simp; done) | (simp; omega) | omega)))⟩
  by_cases q3 : hasN x.Nodes name = true
  rotate_left
  · have e1 := Asd.mk (show dropWeb x name = (⟨[]⟩, 4) by rw [dropWeb, if_neg (by simp [q1]), if_neg (by simp [q2]), if_pos (Bool.eq_false_iff.2 q3)])
    replace q3 := Bool.eq_false_iff.2 q3
    go_enter Try.func10, Try.ntmps10
    go_wp2_with fail
    refine (CheckWeb_calls x _ (Web.rmk x (h0.out.below HB.out)) hz).mono ?_
    rintro e w1 ⟨rfl, hb⟩
    rw [q1]
    obtain ⟨hcx, hfx⟩ := bcell hb
    have hzz : w.heap.size + 1 < w1.heap.size := by have := hb.size; simp at this; omega
    have HW := Asd.mk (below_st HB.out hb)
    clear hb
    go_wp2_with (first | (go_at_call 38; refine (goodName_calls _ _).mono ?_; rintro e w' ⟨rfl, rfl⟩))
    refine (find_calls x name _ (Web.rmk x (h0.out.below HW.out)) hasc.out (by omega)).mono ?_
    rintro e w2 ⟨k, hk, rfl, hb⟩
    rw [q3]
    obtain ⟨hcx2, hfx2⟩ := bcell hb
    have hzz2 : w.heap.size + 1 < w2.heap.size := by have := hb.size; omega
    replace HW := Asd.mk (below_st HW.out hb)
    clear hb
    go_wp2
    refine bodyPost_ret (v := .tuple #[.agg #[.slice none 0 0], .int .i64 4]) (by simp [results, Try.results10, go_sem, *]) rfl ?_
    rw [e1.out]
    exact ⟨_, rfl, Lie.nil _ _ _ _, by repeat (first | (with_reducible exact Below.refl _ _) | (with_reducible exact HW.out) | (with_reducible refine below_al ?_ _) | (with_reducible refine below_dr ?_ _) | (with_reducible refine below_d1 ?_) | ((with_reducible refine Below.setCell ?_ ?_ _); rotate_left; (next => first | (simp; done) | (simp; omega) | omega)))⟩
  have e1 := Asd.mk (show dropWeb x name = (⟨dropNodes x.Nodes name⟩, 0) by rw [dropWeb, if_neg (by simp [q1]), if_neg (by simp [q2]), if_neg (by simp [q3])])
  have hbd := Asd.mk (fun i hi => web_bd (i := i) q1 hi)
  go_enter Try.func10, Try.ntmps10
  go_wp2_with fail
  refine (CheckWeb_calls x _ (Web.rmk x (h0.out.below HB.out)) hz).mono ?_
  rintro e w1 ⟨rfl, hb⟩
  rw [q1]
  obtain ⟨hcx, hfx⟩ := bcell hb
  have hzz : w.heap.size + 1 < w1.heap.size := by have := hb.size; simp at this; omega
  have HW := Asd.mk (below_st HB.out hb)
  clear hb
  go_wp2_with (first | (go_at_call 38; refine (goodName_calls _ _).mono ?_; rintro e w' ⟨rfl, rfl⟩))
  refine (find_calls x name _ (Web.rmk x (h0.out.below HW.out)) hasc.out (by omega)).mono ?_
  rintro e w2 ⟨a, ha, rfl, hb⟩
  rw [q3]
  have hne := Asd.mk (fun i hi => drop_at (i := i) ha hasc.out q3 hi)
  clear ha
  have hzz3 : w.heap.size < w2.heap.size := by have := hb.size; omega
  have b0 : w2.cell? ⟨w.heap.size, 0, none⟩ = some (.slice A x.Nodes.length c) := by rw [hb.cell (by simp; omega), hcx _ _ (by simp; omega)]; go_simp
  have b1 : w2.cell? ⟨w.heap.size + 1, 0, none⟩ = some (.slice none 0 0) := by rw [hb.cell (by simp; omega), hcx _ _ (by simp)]; go_simp
  have f1 : w2.frozen? ⟨w.heap.size + 1, 0, none⟩ = false := by rw [hb.frozen (by simp; omega), hfx _ _ (by simp)]; go_simp
  have hzz2 : w.heap.size + 1 < w2.heap.size := by have := hb.size; omega
  replace HW := Asd.mk (below_st HW.out hb)
  clear hb hcx hfx
  go_wp2
  go_loopw [31] (fun i wr => ∃ (k : Nat) (v : Value), k ≤ x.Nodes.length ∧ i = .int .i64 k ∧ wr.cell? ⟨w2.heap.size, 0, none⟩ = some v ∧ wr.frozen? ⟨w2.heap.size, 0, none⟩ = false ∧ Lie (w2.heap.size + 1) wr (NodesT 46 108 112 (filTo (neN name) x.Nodes k)) v ∧ Below w.heap.size w wr ∧ w2.heap.size < wr.heap.size ∧ wr.cell? ⟨w.heap.size + 1, 0, none⟩ = some (.slice none 0 0) ∧ wr.frozen? ⟨w.heap.size + 1, 0, none⟩ = false) (fun i _ => x.Nodes.length - (intOf i).toNat)
  case atStart => exact ⟨0, _, by omega, rfl, by go_simp, by go_simp, Lie.nil _ _ _ _, by repeat (first | (with_reducible exact Below.refl _ _) | (with_reducible exact HW.out) | (with_reducible refine below_al ?_ _) | (with_reducible refine below_dr ?_ _) | (with_reducible refine below_d1 ?_) | ((with_reducible refine Below.setCell ?_ ?_ _); rotate_left; (next => first | (simp; done) | (simp; omega) | omega))), by simp, by go_simp, by go_simp⟩
  case round =>
    clear b0 b1 f1 hzz HB
    obtain ⟨k, v, hk, rfl, cv, fv, hL, hbr, hsz, b1, f1⟩ := hrel
    by_cases hlt : k < x.Nodes.length
    · obtain ⟨ad, c', u2, he, k0, k1, k2, h2, hr⟩ := Node.elem (h0.out.below hbr) hlt
      cases he
      obtain ⟨B2, d2, rfl, _, _⟩ := rep_len h2
      replace h2 := Asd.mk h2
      replace hL := Asd.mk hL
      replace hbr := Asd.mk hbr
      have hd := hbd.out k hlt
      have hn := hne.out k hlt
      obtain ⟨R, d, rfl, hRd, _⟩ := hL.out.slice
      clear hr
      by_cases hka : k = a
      · have e2 := Asd.mk (filTo_no (p := neN name) hlt (by rw [hn]; simp [hka]))
        have s1 : w.heap.size < wr.heap.size := by omega
        have s2 : w.heap.size + 1 < wr.heap.size := by omega
        have ffr : ∀ o, (wr.alloc o).frozen? ⟨w2.heap.size, 0, none⟩ = false := fun o => by rw [((Below.refl _ _).alloc (Nat.le_refl _) o).frozen (p := ⟨w2.heap.size, 0, none⟩) hsz]; exact fv
        have ffr1 : ∀ o, (wr.alloc o).frozen? ⟨w.heap.size + 1, 0, none⟩ = false := fun o => by rw [((Below.refl _ _).alloc (Nat.le_refl _) o).frozen (p := ⟨w.heap.size + 1, 0, none⟩) s2]; exact f1
        clear hn
        subst hka
        go_wp2
        go_roundw
        case rel => exact ⟨k + 1, .slice R (filTo (neN name) x.Nodes k).length d, by omega, by go_num, by go_simp, ffr _, by rw [e2.out]; exact hL.out.below (by repeat (first | (with_reducible exact Below.refl _ _) | (with_reducible exact Below.refl _ _) | (with_reducible refine below_al ?_ _) | (with_reducible refine below_dr ?_ _) | (with_reducible refine below_d1 ?_) | ((with_reducible refine Below.setCell ?_ ?_ _); rotate_left; (next => first | (simp; done) | (simp; omega) | omega)))), by repeat (first | (with_reducible exact Below.refl _ _) | (with_reducible exact hbr.out) | (with_reducible refine below_al ?_ _) | (with_reducible refine below_dr ?_ _) | (with_reducible refine below_d1 ?_) | ((with_reducible refine Below.setCell ?_ ?_ _); rotate_left; (next => first | (simp; done) | (simp; omega) | omega))), by simp; omega, by go_simp, ffr1 _⟩
        case measure => simp [intOf]; omega
      · have e2 := Asd.mk (filTo_yes (p := neN name) hlt (by rw [hn]; simp [hka]))
        have hlen := filTo_len (neN name) x.Nodes k
        have s1 : w.heap.size < wr.heap.size := by omega
        have hkeep : ∀ W W', Below W.heap.size W W' → (W.cell? ⟨w2.heap.size, 0, none⟩ = some (.slice R (filTo (neN name) x.Nodes k).length d) ∧ W.cell? ⟨wr.heap.size, 0, none⟩ = some (.string x.Nodes[k].Name) ∧ W.cell? ⟨wr.heap.size, 1, none⟩ = some (.int .i64 x.Nodes[k].Action.Cost) ∧ W.cell? ⟨wr.heap.size, 2, none⟩ = some (.slice B2 x.Nodes[k].Action.Steps.length d2) ∧ W.frozen? ⟨w2.heap.size, 0, none⟩ = false) → (W'.cell? ⟨w2.heap.size, 0, none⟩ = some (.slice R (filTo (neN name) x.Nodes k).length d) ∧ W'.cell? ⟨wr.heap.size, 0, none⟩ = some (.string x.Nodes[k].Name) ∧ W'.cell? ⟨wr.heap.size, 1, none⟩ = some (.int .i64 x.Nodes[k].Action.Cost) ∧ W'.cell? ⟨wr.heap.size, 2, none⟩ = some (.slice B2 x.Nodes[k].Action.Steps.length d2) ∧ W'.frozen? ⟨w2.heap.size, 0, none⟩ = false) := by
          rintro W W' hb ⟨p0, p1, p2, p3, p4⟩
          exact ⟨cell_below hb p0, cell_below hb p1, cell_below hb p2, cell_below hb p3, by rw [hb.frozen (World.block_lt_of_cell? _ _ p0)]; exact p4⟩
        replace hkeep := Asd.mk hkeep
        have ffr : ∀ o, (wr.alloc o).frozen? ⟨w2.heap.size, 0, none⟩ = false := fun o => by rw [((Below.refl _ _).alloc (Nat.le_refl _) o).frozen (p := ⟨w2.heap.size, 0, none⟩) hsz]; exact fv
        clear hn
        go_wp2
        go_region_law (first | (go_simp; go_at_call 40; refine (copyNode_calls x.Nodes[k] _ (Node.rmk _ (h2.out.below (by repeat (first | (with_reducible exact Below.refl _ _) | (with_reducible exact Below.refl _ _) | (with_reducible refine below_al ?_ _) | (with_reducible refine below_dr ?_ _) | (with_reducible refine below_d1 ?_) | ((with_reducible refine Below.setCell ?_ ?_ _); rotate_left; (next => first | (simp; done) | (simp; omega) | omega)))))) (by omega) hd.2).mono ?_; rintro e w5 ⟨us, rfl, hM, hb5⟩; obtain ⟨s0_, s1_, s2_, s3_, s4_⟩ := hkeep.out _ _ hb5 ⟨by first | assumption | go_simp, by first | assumption | go_simp, by first | assumption | go_simp, by first | assumption | go_simp, by first | assumption | go_simp⟩; have hM2 := Asd.mk (hM.lies.mono (l := wr.heap.size) (by simp)); obtain ⟨F_, o_, n_, l_⟩ := hM; obtain ⟨v2_, G2_, rfl, p2_, rfl⟩ := Node.oopen o_; obtain ⟨D2, d3, rfl, _, _⟩ := own_slice p2_; clear p2_ n_ l_ o_; have hb6 := Asd.mk (show Below wr.heap.size wr w5 from below_st (by repeat (first | (with_reducible exact Below.refl _ _) | (with_reducible exact Below.refl _ _) | (with_reducible refine below_al ?_ _) | (with_reducible refine below_dr ?_ _) | (with_reducible refine below_d1 ?_) | ((with_reducible refine Below.setCell ?_ ?_ _); rotate_left; (next => first | (simp; done) | (simp; omega) | omega)))) hb5); have hsz5 : wr.heap.size < w5.heap.size := (by have := hb5.size; simp at this; omega); have hsz6 : w2.heap.size < w5.heap.size := (by omega); have ffr5 : ∀ o, (w5.alloc o).frozen? ⟨w2.heap.size, 0, none⟩ = false := (fun o => by rw [((Below.refl _ _).alloc (Nat.le_refl _) o).frozen (p := ⟨w2.heap.size, 0, none⟩) hsz6]; exact s4_); clear hb5) | (refine step_appL (by rfl) (by rfl) Try.underlying26 info_Node rfl (by decide) (by rfl) (lo := w2.heap.size + 1) (wr := wr) (by omega) hL.out (by repeat (first | (with_reducible exact Below.refl _ _) | (with_reducible exact hb6.out) | (with_reducible refine below_al ?_ _) | (with_reducible refine below_dr ?_ _) | (with_reducible refine below_d1 ?_) | ((with_reducible refine Below.setCell ?_ ?_ _); rotate_left; (next => first | (simp; done) | (simp; omega) | omega)))) (by rfl) (one_cells (heap_alloc_new _ _)) (by simp) (hM2.out.below (by repeat (first | (with_reducible exact Below.refl _ _) | (with_reducible exact Below.refl _ _) | (with_reducible refine below_al ?_ _) | (with_reducible refine below_dr ?_ _) | (with_reducible refine below_d1 ?_) | ((with_reducible refine Below.setCell ?_ ?_ _); rotate_left; (next => first | (simp; done) | (simp; omega) | omega))))) (by simp [maxLen]; omega) (by omega) ?_; intro v7 w7 hL7 hF7; have t0_ := (hF7.cell (b := w2.heap.size) (o := 0) (by first | (simp; done) | (simp; omega)) (.inl (by omega))).trans (by go_simp : _ = some (.slice R (filTo (neN name) x.Nodes k).length d)); have t4_ := (hF7.frozen (b := w2.heap.size) (o := 0) (by first | (simp; done) | (simp; omega)) (.inl (by omega))).trans (by go_simp : _ = false); obtain ⟨R7, d7, rfl, _, _⟩ := hL7.slice; replace hL7 := Asd.mk hL7; replace hF7 := Asd.mk hF7))
        all_goals
          go_wp2
          go_roundw
          case rel =>
            have hq := Asd.mk (Far.trans (B := w.heap.size) (w := w) (by repeat (first | (with_reducible exact Below.refl _ _) | (with_reducible exact below_st hbr.out hb6.out) | (with_reducible refine below_al ?_ _) | (with_reducible refine below_dr ?_ _) | (with_reducible refine below_d1 ?_) | ((with_reducible refine Below.setCell ?_ ?_ _); rotate_left; (next => first | (simp; done) | (simp; omega) | omega)))) hF7.out (by omega) (by first | (simp; done) | (simp; omega)))
            have hq2 := Far.trans (B := w.heap.size + 2) (w := wr) (Below.mono (show Below wr.heap.size wr _ from by repeat (first | (with_reducible exact Below.refl _ _) | (with_reducible exact hb6.out) | (with_reducible refine below_al ?_ _) | (with_reducible refine below_dr ?_ _) | (with_reducible refine below_d1 ?_) | ((with_reducible refine Below.setCell ?_ ?_ _); rotate_left; (next => first | (simp; done) | (simp; omega) | omega)))) (by omega)) hF7.out (by omega) (by first | (simp; done) | (simp; omega))
            have u1 := (hq2.cell (p := ⟨w.heap.size + 1, 0, none⟩) (by simp)).trans b1
            have u2 := (hq2.frozen (p := ⟨w.heap.size + 1, 0, none⟩) (by simp)).trans f1
            exact ⟨k + 1, .slice R7 ((filTo (neN name) x.Nodes k).length + 1) d7, by omega, by go_num, by go_simp, by go_simp, by rw [e2.out, NodesT_snoc]; exact hL7.out.set (by simp) _, by repeat (first | (with_reducible exact Below.refl _ _) | (with_reducible exact hq.out) | (with_reducible refine below_al ?_ _) | (with_reducible refine below_dr ?_ _) | (with_reducible refine below_d1 ?_) | ((with_reducible refine Below.setCell ?_ ?_ _); rotate_left; (next => first | (simp; done) | (simp; omega) | omega))), by have := hF7.out.size; simp at this; simp; omega, by go_simp, by go_simp⟩
          case measure => simp [intOf]; omega
    · obtain rfl : k = x.Nodes.length := by omega
      have e2 := Asd.mk (filTo_end (neN name) x.Nodes)
      obtain ⟨R, d, rfl, hRd, _⟩ := hL.slice
      replace hL := Asd.mk hL
      replace hbr := Asd.mk hbr
      have s1 : w.heap.size < wr.heap.size := by omega
      have s2 : w.heap.size + 1 < wr.heap.size := by omega
      go_wp2
      refine bodyPost_ret (v := .tuple #[.agg #[.slice R (filTo (neN name) x.Nodes x.Nodes.length).length d], .int .i64 0]) (by simp [results, Try.results10, go_sem, *]) rfl ?_
      rw [e1.out]
      refine ⟨_, rfl, ?_, by repeat (first | (with_reducible exact Below.refl _ _) | (with_reducible exact hbr.out) | (with_reducible refine below_al ?_ _) | (with_reducible refine below_dr ?_ _) | (with_reducible refine below_d1 ?_) | ((with_reducible refine Below.setCell ?_ ?_ _); rotate_left; (next => first | (simp; done) | (simp; omega) | omega)))⟩
      show Lie _ _ (NodesT _ _ _ (dropNodes x.Nodes name)) _
      unfold dropNodes
      rw [← e2.out]
      exact (hL.out.set (by simp; omega) _).mono (by omega)
end Go.Proofs.Ytmjfkjdfmpileaa.M
