/- The law of Do, walked. -/
import Derived.Test.YtkpkfihaihoaeaaGreatDoorVsM5
import Derived.Deep.RegionWith
import Derived.Deep.RegionHeld3
section
set_option linter.unusedVariables false
set_option linter.unusedSimpArgs false
namespace Go.Proofs.YtkpkfihaihoaeaaGreatDoor.M
open Go.RowKit
def readyC (W : Web) (s : State) : List ByteArray := if validS W s = true then readyL W s.Runs else []
theorem readyC_yes {W : Web} {s : State} (h : validS W s = true) : readyC W s = readyL W s.Runs := if_pos h
theorem readyC_no {W : Web} {s : State} (h : validS W s = false) : readyC W s = [] := if_neg (by rw [h]; decide)
theorem strs_cnt_len (t : Nat) (xs : List ByteArray) : cnt (strsT t xs) = xs.length := by
  show cnts (xs.flatMap strC) = _
  induction xs with
  | nil => rfl
  | cons x xs ih => rw [List.flatMap_cons, cnts_append, ih, List.length_cons]; simp [strC, cnts, cnt]; omega
theorem readyC_cnt (t : Nat) (W : Web) (s : State) : cnt (strsT t (readyC W s)) ≤ 60 := by
  rw [strs_cnt_len]
  cases h : validS W s with
  | true => obtain ⟨hw, _, hR⟩ := validS_reach h; rw [readyC_yes h]; exact readyL_len hw hR
  | false => rw [readyC_no h]; simp
theorem State.cnt_le (t : Nat) (x : State) : cntl (x.c t) ≤ 6 * x.bk := by
  have h1 := strs_cnt 9 x.Roots
  have h2 := runs_cnt t Run.bk x.Runs (fun r _ => by unfold Run.bk bkS bsOf; omega)
  have e : cntl (x.c t) = cnt (strsT 9 x.Roots) + (cnt (RunsT t x.Runs) + 0) := rfl
  rw [e]
  unfold State.bk Run.bs
  unfold bsOf
  omega
set_option maxRecDepth 100000 in
set_option maxHeartbeats 2000000 in
theorem Ready_calls {tN tS tC t : Nat} (W : Web) (s : State) (w : World) {vs us : List Value} (hW : reps w (W.c tN tS tC) vs) (h : reps w (State.c t s) us) (hz : W.Sm) (hgl : 3 < w.heap.size) (hgt : w.cell? ⟨3, 15, none⟩ = some (.int .u8 4)) :
    Calls Tryz.prog 37 #[.agg vs.toArray, .agg us.toArray] w (MadeV w (strsT 9 (readyC W s))) := by
  obtain ⟨v0, rfl, h0⟩ := Web.ropen hW
  obtain ⟨A, c, rfl, _, _⟩ := rep_len h0
  obtain ⟨u0, u1, rfl, g0, g1⟩ := State.ropen h
  obtain ⟨D, k, rfl, _, _⟩ := rep_len g0
  obtain ⟨B, d, rfl, _, _⟩ := rep_len g1
  replace hW := Asd.mk hW
  replace h := Asd.mk h
  clear h0 g0 g1
  have HB := Asd.mk (below_al (below_al (Below.refl w.heap.size w) (.cells #[.slice A W.Nodes.length c] 34)) (.cells #[.slice D s.Roots.length k, .slice B s.Runs.length d] 38))
  go_enter Tryz.func37, Tryz.ntmps37
  go_wp2_with fail
  refine (load_calls W s _ (hW.out.below HB.out) (h.out.below HB.out) hz (by simp; omega) (cell_below HB.out hgt)).mono ?_
  rintro e w1 ⟨hb, ⟨hv, eg, F, lo, rfl, hlo, hE⟩ | ⟨hv, rfl⟩⟩
  · have hq := Asd.mk (readyC_yes hv)
    obtain ⟨hw, _, hR⟩ := validS_reach hv
    have hb1 := Asd.mk (below_st HB.out hb)
    replace hE := Asd.mk hE
    replace hR := Asd.mk hR
    clear hb hlo hv
    go_wp2_with fail
    refine (ready_calls W s.Roots s.Runs eg F _ hE.out hw (hR.out.inv hw)).mono ?_
    rintro e w2 ⟨v, rfl, hM, hb⟩
    have hb2 := Asd.mk (below_st hb1.out hb)
    have hL := Asd.mk (hM.lie.mono hb1.out.size)
    clear hb hM
    go_wp2
    go_ret
    rw [hq.out]
    exact ⟨_, rfl, hL.out.made, hb2.out⟩
  · have hq := Asd.mk (readyC_no hv)
    have hb1 := Asd.mk (below_st HB.out hb)
    clear hb hv
    go_wp2
    go_ret
    rw [hq.out]
    exact ⟨_, rfl, Lie.made (Lie.nil _ _ _ _), hb1.out⟩
set_option maxRecDepth 100000 in
set_option maxHeartbeats 2000000 in
theorem sReady_calls {tN tS tC t : Nat} (W : Web) (s : State) (w : World) {vs us : List Value} (hW : reps w (W.c tN tS tC) vs) (h : reps w (State.c t s) us) (hz : W.Sm) :
    Calls Tryz.prog 36 #[.agg vs.toArray, .agg us.toArray] w (MadeV w (strsT 9 (readyC W s))) := by
  obtain ⟨v0, rfl, h0⟩ := Web.ropen hW
  obtain ⟨A, c, rfl, _, _⟩ := rep_len h0
  obtain ⟨u0, u1, rfl, g0, g1⟩ := State.ropen h
  obtain ⟨D, k, rfl, _, _⟩ := rep_len g0
  obtain ⟨B, d, rfl, _, _⟩ := rep_len g1
  replace hW := Asd.mk hW
  replace h := Asd.mk h
  clear h0 g0 g1
  have HB := Asd.mk (below_al (below_al (Below.refl w.heap.size w) (.cells #[.slice A W.Nodes.length c] 34)) (.cells #[.slice D s.Roots.length k, .slice B s.Runs.length d] 38))
  obtain ⟨g, hg⟩ : ∃ g, validS W s = g := ⟨_, rfl⟩
  go_enter Tryz.func36, Tryz.ntmps36
  go_wp2_with fail
  refine (sValidState_calls W s _ (hW.out.below HB.out) (h.out.below HB.out) hz).mono ?_
  rw [hg]
  rintro e w1 ⟨rfl, hb⟩
  obtain ⟨hcx, hfx⟩ := bcell hb
  have hzz : w.heap.size + 1 < w1.heap.size := by have := hb.size; simp at this; omega
  have hb1 := Asd.mk (below_st HB.out hb)
  have a0 : w1.cell? ⟨w.heap.size, 0, none⟩ = some (.slice A W.Nodes.length c) := by rw [hcx _ _ (by simp; omega)]; go_simp
  have b0 : w1.cell? ⟨w.heap.size + 1, 0, none⟩ = some (.slice D s.Roots.length k) := by rw [hcx _ _ (by simp)]; go_simp
  have b1 : w1.cell? ⟨w.heap.size + 1, 1, none⟩ = some (.slice B s.Runs.length d) := by rw [hcx _ _ (by simp)]; go_simp
  clear hb hcx hfx
  cases g with
  | true =>
    have hq := Asd.mk (readyC_yes hg)
    obtain ⟨hw, _, hR⟩ := validS_reach hg
    replace hR := Asd.mk hR
    clear hg
    go_wp2_with fail
    refine (l4Ready_calls W s _ (hW.out.below hb1.out) (h.out.below hb1.out) hw (hR.out.inv hw)).mono ?_
    rintro e w2 ⟨v, rfl, hM, hb⟩
    have hb2 := Asd.mk (below_st hb1.out hb)
    have hL := Asd.mk (hM.lie.mono hb1.out.size)
    clear hb hM
    go_wp2
    go_ret
    rw [hq.out]
    exact ⟨_, rfl, hL.out.made, hb2.out⟩
  | false =>
    have hq := Asd.mk (readyC_no hg)
    clear hg
    go_wp2
    go_ret
    rw [hq.out]
    exact ⟨_, rfl, Lie.made ((Lie.empty w1 _ _).mono hb1.out.size), by repeat (first | (with_reducible exact Below.refl _ _) | (with_reducible exact hb1.out) | (with_reducible refine below_al ?_ _) | (with_reducible refine below_dr ?_ _) | (with_reducible refine below_d1 ?_) | ((with_reducible refine Below.setCell ?_ ?_ _); rotate_left; (next => first | (simp; done) | (simp; omega) | omega)))⟩
end Go.Proofs.YtkpkfihaihoaeaaGreatDoor.M
end
section
set_option linter.unusedVariables false
set_option linter.unusedSimpArgs false
namespace Go.Proofs.YtkpkfihaihoaeaaGreatDoor.M
open Go.RowKit
set_option maxRecDepth 100000 in
set_option maxHeartbeats 4000000 in
theorem l4Copy_calls {t : Nat} (x : State) (w : World) {vs : List Value} (h : reps w (State.c t x) vs) (hR : x.Runs.length ≤ 1000000) (hro : x.Roots.length ≤ 1000000) (hT : ∀ r ∈ x.Runs, r.Texts.length ≤ 1000000) :
    Calls Tryz.prog 79 #[.agg vs.toArray] w (StateP x.Roots x.Runs w) := by
  obtain ⟨roots, R⟩ := x
  obtain ⟨u0, u1, rfl, g0, g1⟩ := State.ropen h
  obtain ⟨D, k, rfl, _, _⟩ := rep_len g0
  obtain ⟨B, d, rfl, _, _⟩ := rep_len g1
  dsimp only at *
  replace g0 := Asd.mk g0
  replace g1 := Asd.mk g1
  clear h
  go_enter Tryz.func79, Tryz.ntmps79
  go_upto_region 1 with (fail)
  obtain ⟨X, eX⟩ : ∃ X : World, X = (w.alloc (.cells #[.slice D roots.length k, .slice B R.length d] 38)).alloc (.cells #[.slice none 0 0, .slice none 0 0] 38) := ⟨_, rfl⟩
  rw [← eX]
  have hbX := Asd.mk (show Below w.heap.size w X from eX ▸ by repeat (first | (with_reducible exact Below.refl _ _) | (with_reducible exact Below.refl _ _) | (with_reducible refine below_al ?_ _) | (with_reducible refine below_dr ?_ _) | (with_reducible refine below_d1 ?_) | ((with_reducible refine Below.setCell ?_ ?_ _); rotate_left; (next => first | (simp; done) | (simp; omega) | omega))))
  have hX := Asd.mk (show X.heap[w.heap.size]? = _ from eX ▸ (heap_alloc_old _ _ (by simp)).trans (heap_alloc_new w (.cells #[.slice D roots.length k, .slice B R.length d] 38)))
  have hA := Asd.mk (show X.heap[w.heap.size + 1]? = some (.cells #[.slice none 0 0, .slice none 0 0] 38 (0, 0)) from by rw [eX]; simpa using heap_alloc_new (w.alloc (.cells #[.slice D roots.length k, .slice B R.length d] 38)) (.cells #[.slice none 0 0, .slice none 0 0] 38))
  have zX : X.heap.size ≤ w.heap.size + 2 := by rw [eX]; simp
  have zX' : w.heap.size + 2 ≤ X.heap.size := by rw [eX]; simp
  have zXl : w.heap.size < X.heap.size := by omega
  have x0 : X.cell? ⟨w.heap.size, 0, none⟩ = some (.slice D roots.length k) := cellOf hX.out rfl
  clear eX
  go_wp2_with (at_builtin; refine appNew rfl rfl rfl rfl rfl (g0.out.below hbX.out) hro ?_)
  intro v1 w1 hL1 hb1 hz1
  obtain ⟨B1, d1, rfl, _, _⟩ := hL1.slice
  go_upto_region 2 with (fail)
  have hbX2 := Asd.mk (show Below w.heap.size w (w1.alloc (.cells #[.slice B1 roots.length d1, .slice none 0 0] 38)) from below_al (below_st hbX.out hb1) _)
  have g2 := Asd.mk (heap_alloc_new w1 (.cells #[.slice B1 roots.length d1, .slice none 0 0] 38))
  have gO := Asd.mk ((below_al hb1 (.cells #[.slice B1 roots.length d1, .slice none 0 0] 38)).block _ (show w.heap.size + 1 < X.heap.size by omega) |>.trans hA.out)
  have gX := Asd.mk ((below_al hb1 (.cells #[.slice B1 roots.length d1, .slice none 0 0] 38)).block _ (show w.heap.size < X.heap.size by omega) |>.trans hX.out)
  have hL2 : ∃ F, own (w1.alloc (.cells #[.slice B1 roots.length d1, .slice none 0 0] 38)) (strsT 9 roots) (.slice B1 roots.length d1) F ∧ F.Nodup ∧ ∀ b ∈ F, b ≠ w1.heap.size ∧ w.heap.size + 2 ≤ b ∧ b < w1.heap.size + 1 := by
    obtain ⟨F, f1, f2, f3⟩ := hL1
    exact ⟨F, f1.below (below_al (Below.refl _ _) _), f2, fun b hb => by have := f1.lt b hb; have := f3 b hb; omega⟩
  obtain ⟨F0, o0, n0, l0⟩ := hL2
  have hzz : (w1.alloc (.cells #[.slice B1 roots.length d1, .slice none 0 0] 38)).heap.size ≤ w1.heap.size + 1 := by simp
  have hzz' : w1.heap.size + 1 ≤ (w1.alloc (.cells #[.slice B1 roots.length d1, .slice none 0 0] 38)).heap.size := by simp
  obtain ⟨X2, eX⟩ : ∃ X2 : World, X2 = w1.alloc (.cells #[.slice B1 roots.length d1, .slice none 0 0] 38) := ⟨_, rfl⟩
  rw [← eX] at hbX2 g2 gO gX o0 hzz hzz' ⊢
  replace o0 := Asd.mk o0
  replace l0 := Asd.mk l0
  clear eX hb1 hL1 x0
  obtain ⟨ob, hob⟩ : ∃ ob, ob = w1.heap.size := ⟨_, rfl⟩
  rw [← hob] at g2 hzz hzz' l0 ⊢
  have zo : w.heap.size + 2 < ob := by omega
  clear hob hz1
  go_wp2
  go_loopw [4] (fun i wr => ∃ (k : Nat) (rv : Value), k ≤ R.length ∧ i = .int .i64 k ∧ wr.heap[ob]? = some (.cells #[.slice B1 roots.length d1, rv] 38 (0, 0)) ∧ Lie X2.heap.size wr (RunsT 84 (tkTo R k)) rv ∧ MFr [ob] X2 wr) (fun i _ => R.length - (intOf i).toNat)
  case atStart => exact ⟨0, _, by omega, rfl, g2.out, by rw [tkTo_zero]; exact Lie.nil _ _ _ _, MFr.refl _ _⟩
  case round =>
    obtain ⟨k, rv, hk, rfl, gr, gL, hm⟩ := hrel
    have gb := Asd.mk (MFr.upon hm hbX2.out (Nat.le_refl _) (fun b hb => by simp at hb; omega))
    have s2 : X2.heap.size ≤ wr.heap.size := hm.size
    have q8 := (hm.block _ (by omega) (by simp; omega)).trans gX.out
    have q1 := cellOf q8 (i := 1) rfl
    obtain ⟨Av, cv, rfl, hvl, _⟩ := gL.slice
    have b1 := cellOf gr (i := 1) rfl
    have f1 := frozenOf gr 1
    by_cases hlt : k < R.length
    · obtain ⟨r, hr⟩ : ∃ r, R[k] = r := ⟨_, rfl⟩
      have e1 := Asd.mk (show tkTo R (k + 1) = tkTo R k ++ [r] by rw [tkTo_succ hlt, hr])
      have hT' := hT r (hr ▸ List.getElem_mem hlt)
      have hlen := Nat.le_trans (tkTo_len R k) (Nat.le_trans (Nat.le_of_lt hlt) hR)
      obtain ⟨a, c', v6, he, k0, k1, k2, k3, k4, k5, k6, hk6, hkr⟩ := Run.elem (g1.out.below gb.out) hlt
      cases he
      rw [hr] at k0 k1 k2 k3 k4 k5 hk6
      obtain ⟨Ct, et, rfl, _, _⟩ := rep_len hk6
      replace hk6 := Asd.mk hk6
      replace gL := Asd.mk gL
      replace gr := Asd.mk gr
      replace hm := Asd.mk hm
      clear hkr hr q8
      go_upto_region 6 with (fail)
      obtain ⟨Y, eY⟩ : ∃ Y : World, Y = wr.alloc (.cells #[.string r.Name, .bool r.Over, .bool r.Fail, .string r.Text, .int .i64 r.At, .int .i64 r.Visits, .slice Ct r.Texts.length et] 84) := ⟨_, rfl⟩
      rw [← eY]
      have hbY := Asd.mk (show Below wr.heap.size wr Y from eY ▸ by repeat (first | (with_reducible exact Below.refl _ _) | (with_reducible exact Below.refl _ _) | (with_reducible refine below_al ?_ _) | (with_reducible refine below_dr ?_ _) | (with_reducible refine below_d1 ?_) | ((with_reducible refine Below.setCell ?_ ?_ _); rotate_left; (next => first | (simp; done) | (simp; omega) | omega))))
      have hY := Asd.mk (show Y.heap[wr.heap.size]? = _ from eY ▸ heap_alloc_new _ _)
      have zY : Y.heap.size ≤ wr.heap.size + 1 := by rw [eY]; simp
      have zY' : wr.heap.size + 1 ≤ Y.heap.size := by rw [eY]; simp
      have zYl : wr.heap.size < Y.heap.size := by omega
      have y6o : Y.cell? ⟨wr.heap.size, 6, none⟩ = some (.slice Ct r.Texts.length et) := cellOf hY.out rfl
      clear eY k0 k1 k2 k3 k4 k5 k6 q1
      replace b1 := cell_below hbY.out b1
      go_wp2_with (at_builtin; refine appNew rfl rfl rfl rfl rfl (hk6.out.below hbY.out) hT' ?_)
      intro v3 w3 hL3 hb3' hz3
      obtain ⟨A3, d3, rfl, _, _⟩ := hL3.slice
      obtain ⟨F3, o3, n3, l3⟩ := hL3
      have hb3 := Asd.mk (below_st hbY.out hb3')
      have hY3 := Asd.mk ((hb3'.block wr.heap.size (by omega)).trans hY.out)
      have y0 : w3.cell? ⟨wr.heap.size, 0, none⟩ = some (.string r.Name) := cellOf hY3.out rfl
      have y1 : w3.cell? ⟨wr.heap.size, 1, none⟩ = some (.bool r.Over) := cellOf hY3.out rfl
      have y2 : w3.cell? ⟨wr.heap.size, 2, none⟩ = some (.bool r.Fail) := cellOf hY3.out rfl
      have y3 : w3.cell? ⟨wr.heap.size, 3, none⟩ = some (.string r.Text) := cellOf hY3.out rfl
      have y4 : w3.cell? ⟨wr.heap.size, 4, none⟩ = some (.int .i64 r.At) := cellOf hY3.out rfl
      have y5 : w3.cell? ⟨wr.heap.size, 5, none⟩ = some (.int .i64 r.Visits) := cellOf hY3.out rfl
      have y6 : w3.cell? ⟨wr.heap.size, 6, none⟩ = some (.slice Ct r.Texts.length et) := cellOf hY3.out rfl
      have z6 := frozenOf hY3.out 6
      have hu3 : Asd (Lies (wr.heap.size + 1) w3 (Run.c r) [.string r.Name, .bool r.Over, .bool r.Fail, .string r.Text, .int .i64 r.At, .int .i64 r.Visits, .slice A3 r.Texts.length d3]) := Asd.mk ⟨F3, Run.omk r o3, n3, fun q hq => by have := l3 q hq; omega⟩
      have z3 : wr.heap.size + 1 ≤ w3.heap.size := by omega
      have sob : ob < wr.heap.size := by omega
      replace b1 := cell_below hb3' b1
      clear hb3' o3 l3 n3 y6o
      go_wp2_with (at_builtin; refine appL rfl rfl Tryz.underlying36 info_Run rfl (by decide) rfl (lo := X2.heap.size) (wr := wr) s2 gL.out (by repeat (first | (with_reducible exact Below.refl _ _) | (with_reducible exact hb3.out) | (with_reducible refine below_al ?_ _) | (with_reducible refine below_dr ?_ _) | (with_reducible refine below_d1 ?_) | ((with_reducible refine Below.setCell ?_ ?_ _); rotate_left; (next => first | (simp; done) | (simp; omega) | omega)))) rfl (one_cells (heap_new_set _ _ _ _)) (by simp) (((hu3.out.set (p := ⟨wr.heap.size, 6, none⟩) (by simp) _).mono (by omega)).below (below_al (Below.refl _ _) _)) (by simp [maxLen]; omega) (by omega) ?_)
      intro v7 w7 hL7 hF7
      obtain ⟨A7, d7, rfl, _, _⟩ := hL7.slice
      have hold := Asd.mk (fun b (hb : b < wr.heap.size) => show ((w3.setCell ⟨wr.heap.size, 6, none⟩ (.slice A3 r.Texts.length d3)).alloc (.cells #[.string r.Name, .bool r.Over, .bool r.Fail, .string r.Text, .int .i64 r.At, .int .i64 r.Visits, .slice A3 r.Texts.length d3] 84)).heap[b]? = wr.heap[b]? from (show Below wr.heap.size wr _ from by repeat (first | (with_reducible exact Below.refl _ _) | (with_reducible exact hb3.out) | (with_reducible refine below_al ?_ _) | (with_reducible refine below_dr ?_ _) | (with_reducible refine below_d1 ?_) | ((with_reducible refine Below.setCell ?_ ?_ _); rotate_left; (next => first | (simp; done) | (simp; omega) | omega)))).block b hb)
      have h7 := Asd.mk (fun b (hb : b < X2.heap.size) => (hF7.block b (by simp; omega) (.inl hb)).trans (hold.out b (by omega)))
      have gB7 := Asd.mk ((h7.out ob (by omega)).trans gr.out)
      have t0 := cellOf gB7.out (i := 1) rfl
      have t1 := frozenOf gB7.out 1
      have hn7 := Asd.mk (show MFr [ob] X2 w7 from ⟨hF7.os.trans ((show Below wr.heap.size wr _ from by repeat (first | (with_reducible exact Below.refl _ _) | (with_reducible exact hb3.out) | (with_reducible refine below_al ?_ _) | (with_reducible refine below_dr ?_ _) | (with_reducible refine below_d1 ?_) | ((with_reducible refine Below.setCell ?_ ?_ _); rotate_left; (next => first | (simp; done) | (simp; omega) | omega)))).os.trans hm.out.os), hF7.tape.trans ((show Below wr.heap.size wr _ from by repeat (first | (with_reducible exact Below.refl _ _) | (with_reducible exact hb3.out) | (with_reducible refine below_al ?_ _) | (with_reducible refine below_dr ?_ _) | (with_reducible refine below_d1 ?_) | ((with_reducible refine Below.setCell ?_ ?_ _); rotate_left; (next => first | (simp; done) | (simp; omega) | omega)))).tape.trans hm.out.tape), hF7.output.trans ((show Below wr.heap.size wr _ from by repeat (first | (with_reducible exact Below.refl _ _) | (with_reducible exact hb3.out) | (with_reducible refine below_al ?_ _) | (with_reducible refine below_dr ?_ _) | (with_reducible refine below_d1 ?_) | ((with_reducible refine Below.setCell ?_ ?_ _); rotate_left; (next => first | (simp; done) | (simp; omega) | omega)))).output.trans hm.out.output), Nat.le_trans s2 (by have := hF7.size; simp at this; omega), fun b hb hn => (h7.out b hb).trans (hm.out.block b hb hn)⟩)
      replace hL7 := Asd.mk hL7
      have z7 : wr.heap.size ≤ w7.heap.size := by have := hF7.size; simp at this; omega
      clear hF7 h7 hold
      go_wp2
      go_roundw
      case rel =>
        exact ⟨k + 1, _, by omega, by go_num, heap_set1 gB7.out 1 _, by rw [e1.out, RunsT_snoc]; exact hL7.out.set (by simp; omega) _, hn7.out.trans (MFr.of_set _ (by simp))⟩
      case measure => simp [intOf]; omega
    · obtain rfl : k = R.length := by omega
      have e1 := Asd.mk (show tkTo R R.length = R from tkTo_end R)
      have b0 := cellOf gr (i := 0) rfl
      have p7 := (hm.block _ (by omega) (by simp; omega)).trans gO.out
      have a0 := cellOf p7 (i := 0) rfl
      have a1 := cellOf p7 (i := 1) rfl
      have z0 := frozenOf p7 0
      have z1 := frozenOf p7 1
      replace gL := Asd.mk gL
      replace hm := Asd.mk hm
      clear gr p7 q8
      go_wp2
      refine bodyPost_ret (v := .agg #[.slice B1 roots.length d1, .slice Av (tkTo R R.length).length cv]) (by simp [results, Tryz.results79, go_sem, *]) rfl ?_
      have hq := Asd.mk ((MFr.of_set (F := [w.heap.size + 1]) (w := wr) (p := ⟨w.heap.size + 1, 0, none⟩) (.slice B1 roots.length d1) (by simp)).trans (MFr.of_set (p := ⟨w.heap.size + 1, 1, none⟩) (.slice Av (tkTo R R.length).length cv) (by simp)))
      refine ⟨_, _, rfl, mades_state (lo := X2.heap.size) (F0 := F0) (hq.out.own (hm.out.own o0.out (fun b hb h => by have := l0.out b hb; simp at h; omega)) (fun b hb h => by have := l0.out b hb; simp at h; omega)) n0 (fun b hb => ⟨by have := l0.out b hb; omega, by have := l0.out b hb; omega⟩) ?_ (by omega), by repeat (first | (with_reducible exact Below.refl _ _) | (with_reducible exact gb.out) | (with_reducible refine below_al ?_ _) | (with_reducible refine below_dr ?_ _) | (with_reducible refine below_d1 ?_) | ((with_reducible refine Below.setCell ?_ ?_ _); rotate_left; (next => first | (simp; done) | (simp; omega) | omega)))⟩
      have hq2 := (gL.out.set (p := ⟨w.heap.size + 1, 0, none⟩) (by show w.heap.size + 1 < X2.heap.size; omega) (.slice B1 roots.length d1)).set (p := ⟨w.heap.size + 1, 1, none⟩) (by show w.heap.size + 1 < X2.heap.size; omega) (.slice Av (tkTo R R.length).length cv)
      rw [e1.out] at hq2 ⊢
      exact hq2
end Go.Proofs.YtkpkfihaihoaeaaGreatDoor.M
end
section
set_option linter.unusedVariables false
set_option linter.unusedSimpArgs false
namespace Go.Proofs.YtkpkfihaihoaeaaGreatDoor.M
open Go.RowKit
def DoR (s : State) (w : World) (e' : Ending) (w' : World) : Prop := ∃ v0 v1, e' = .returned (.agg #[v0, v1]) ∧ reps w' (State.c 84 s) [v0, v1] ∧ Below w.heap.size w w'
def doT (W : Web) (x : State) (q : ByteArray) : State := match runOf x.Runs q with
  | some r => if isReady W x.Runs r = true then ⟨x.Roots, doRun W x.Runs r⟩ else x
  | none => x
theorem doT_none {W : Web} {x : State} {q : ByteArray} (h : runOf x.Runs q = none) : doT W x q = x := by unfold doT; rw [h]
theorem doT_not {W : Web} {x : State} {q : ByteArray} {r : Run} (h : runOf x.Runs q = some r) (hr : isReady W x.Runs r = false) : doT W x q = x := by unfold doT; rw [h]; simp [hr]
theorem doT_yes {W : Web} {x : State} {q : ByteArray} {r : Run} (h : runOf x.Runs q = some r) (hr : isReady W x.Runs r = true) : doT W x q = ⟨x.Roots, doRun W x.Runs r⟩ := by unfold doT; rw [h]; simp [hr]
set_option maxRecDepth 100000 in
set_option maxHeartbeats 4000000 in
theorem l4Do_not {t tN tS tC : Nat} (W : Web) (x : State) (q : ByteArray) (r : Run) (w : World) {us vs : List Value} (hW : reps w (W.c tN tS tC) us) (h : reps w (State.c t x) vs) (hw : checkWeb W = 0) (hI : Inv W x.Runs) (hr : runOf x.Runs q = some r) (hrd : isReady W x.Runs r = false) (hro : x.Roots.length ≤ 1000000) :
    Calls Tryz.prog 72 #[.agg us.toArray, .agg vs.toArray, .string q] w (DoR x w) := by
  have hTx := Asd.mk (show ∀ y ∈ x.Runs, y.Texts.length ≤ 1000000 from fun y hy => by have h1 := (hI.ok y hy).many; have h2 := (hI.ok y hy).vis1; omega)
  have hW0 := hW
  have hS0 := h
  obtain ⟨v0, rfl, h0⟩ := Web.ropen hW
  obtain ⟨A, c, rfl, _, _⟩ := rep_len h0
  obtain ⟨u0, u1, rfl, g0, g1⟩ := State.ropen h
  obtain ⟨D, k, rfl, _, _⟩ := rep_len g0
  obtain ⟨B, d, rfl, _, _⟩ := rep_len g1
  obtain ⟨i, hi, hM, hri⟩ := atR_some hr
  have hRk := hI.ok r (runOf_some hr).1
  have hrn := (runOf_some hr).2
  subst hrn
  have hRl : x.Runs.length ≤ 60 := by have := hI.length hw; have := (checkWeb_ok hw).1; omega
  obtain ⟨a, c', v6, he, k0, k1, k2, k3, k4, k5, k6, hk6, hkr⟩ := Run.elem g1 hi
  cases he
  rw [hri] at k0 k1 k2 k3 k4 k5 hk6 hkr
  obtain ⟨E, e, rfl, _, _⟩ := rep_len hk6
  replace hM := Asd.mk hM
  replace h0 := Asd.mk h0
  replace g0 := Asd.mk g0
  replace g1 := Asd.mk g1
  replace hkr := Asd.mk hkr
  replace hW0 := Asd.mk hW0
  replace hS0 := Asd.mk hS0
  replace hI := Asd.mk hI
  clear hW h hk6 hri
  have hz : (i : Int) < (x.Runs.length : Int) := by omega
  have hz2 : decide ((i : Int) < 0) = false := by simp
  obtain ⟨X, eX⟩ : ∃ X : World, X = ((w.alloc (.cells #[.slice A W.Nodes.length c] 34)).alloc (.cells #[.slice D x.Roots.length k, .slice (some a) x.Runs.length d] 38)).alloc (.cells #[.slice none 0 0, .slice none 0 0] 38) := ⟨_, rfl⟩
  have hbX := Asd.mk (show Below w.heap.size w X from eX ▸ by repeat (first | (with_reducible exact Below.refl _ _) | (with_reducible exact Below.refl _ _) | (with_reducible refine below_al ?_ _) | (with_reducible refine below_dr ?_ _) | (with_reducible refine below_d1 ?_) | ((with_reducible refine Below.setCell ?_ ?_ _); rotate_left; (next => first | (simp; done) | (simp; omega) | omega))))
  have a0 : X.cell? ⟨w.heap.size, 0, none⟩ = some (.slice A W.Nodes.length c) := by rw [eX]; go_simp
  have b0 : X.cell? ⟨w.heap.size + 1, 0, none⟩ = some (.slice D x.Roots.length k) := by rw [eX]; go_simp
  have b1 : X.cell? ⟨w.heap.size + 1, 1, none⟩ = some (.slice (some a) x.Runs.length d) := by rw [eX]; go_simp
  have o0 : X.cell? ⟨w.heap.size + 1 + 1, 0, none⟩ = some (.slice none 0 0) := by rw [eX]; go_simp
  have o1 : X.cell? ⟨w.heap.size + 1 + 1, 1, none⟩ = some (.slice none 0 0) := by rw [eX]; go_simp
  have of0 : X.frozen? ⟨w.heap.size + 1 + 1, 0, none⟩ = false := by rw [eX]; go_simp
  have of1 : X.frozen? ⟨w.heap.size + 1 + 1, 1, none⟩ = false := by rw [eX]; go_simp
  have zX : Asd (X.heap.size = w.heap.size + 1 + 1 + 1) := Asd.mk (by rw [eX]; simp)
  replace k0 := cell_below hbX.out k0
  replace k1 := cell_below hbX.out k1
  replace k2 := cell_below hbX.out k2
  replace k3 := cell_below hbX.out k3
  replace k4 := cell_below hbX.out k4
  replace k5 := cell_below hbX.out k5
  replace k6 := cell_below hbX.out k6
  go_enter Tryz.func72, Tryz.ntmps72
  go_upto_region 1 with (fail)
  rw [← eX]
  clear eX
  go_wp2_with fail
  refine (l4At_calls x r.Name _ (hS0.out.below hbX.out)).mono ?_
  rw [hM.out]
  rintro e' w2 ⟨rfl, hb⟩
  have hb2 := Asd.mk hb
  clear hb
  have hkeep := Asd.mk (show ∀ Y, Below X.heap.size X Y → (Below X.heap.size X Y ∧ Y.cell? ⟨w.heap.size, 0, none⟩ = some (.slice A W.Nodes.length c) ∧ Y.cell? ⟨w.heap.size + 1, 0, none⟩ = some (.slice D x.Roots.length k) ∧ Y.cell? ⟨w.heap.size + 1, 1, none⟩ = some (.slice (some a) x.Runs.length d) ∧ Y.cell? (a.add (i * 7)) = some (.string r.Name) ∧ Y.cell? ⟨(a.add (i * 7)).block, (a.add (i * 7)).off + 1, none⟩ = some (.bool r.Over) ∧ Y.cell? ⟨(a.add (i * 7)).block, (a.add (i * 7)).off + 2, none⟩ = some (.bool r.Fail) ∧ Y.cell? ⟨(a.add (i * 7)).block, (a.add (i * 7)).off + 3, none⟩ = some (.string r.Text) ∧ Y.cell? ⟨(a.add (i * 7)).block, (a.add (i * 7)).off + 4, none⟩ = some (.int .i64 r.At) ∧ Y.cell? ⟨(a.add (i * 7)).block, (a.add (i * 7)).off + 5, none⟩ = some (.int .i64 r.Visits) ∧ Y.cell? ⟨(a.add (i * 7)).block, (a.add (i * 7)).off + 6, none⟩ = some (.slice E r.Texts.length e))
    from fun Y hb => ⟨hb, cell_below hb a0, cell_below hb b0, cell_below hb b1, cell_below hb k0, cell_below hb k1, cell_below hb k2, cell_below hb k3, cell_below hb k4, cell_below hb k5, cell_below hb k6⟩)
  go_upto_region 2 with (fail)
  have s_0 : Below X.heap.size X w2.drew := below_st hb2.out (by repeat (first | (with_reducible exact Below.refl _ _) | (with_reducible exact Below.refl _ _) | (with_reducible refine below_al ?_ _) | (with_reducible refine below_dr ?_ _) | (with_reducible refine below_d1 ?_) | ((with_reducible refine Below.setCell ?_ ?_ _); rotate_left; (next => first | (simp; done) | (simp; omega) | omega))))
  refine wp_region_held_drew (S := fun Y => Below X.heap.size X Y ∧ Y.cell? ⟨w.heap.size, 0, none⟩ = some (.slice A W.Nodes.length c) ∧ Y.cell? ⟨w.heap.size + 1, 0, none⟩ = some (.slice D x.Roots.length k) ∧ Y.cell? ⟨w.heap.size + 1, 1, none⟩ = some (.slice (some a) x.Runs.length d) ∧ Y.cell? (a.add (i * 7)) = some (.string r.Name) ∧ Y.cell? ⟨(a.add (i * 7)).block, (a.add (i * 7)).off + 1, none⟩ = some (.bool r.Over) ∧ Y.cell? ⟨(a.add (i * 7)).block, (a.add (i * 7)).off + 2, none⟩ = some (.bool r.Fail) ∧ Y.cell? ⟨(a.add (i * 7)).block, (a.add (i * 7)).off + 3, none⟩ = some (.string r.Text) ∧ Y.cell? ⟨(a.add (i * 7)).block, (a.add (i * 7)).off + 4, none⟩ = some (.int .i64 r.At) ∧ Y.cell? ⟨(a.add (i * 7)).block, (a.add (i * 7)).off + 5, none⟩ = some (.int .i64 r.Visits) ∧ Y.cell? ⟨(a.add (i * 7)).block, (a.add (i * 7)).off + 6, none⟩ = some (.slice E r.Texts.length e)) (by kernel_rfl) (hkeep.out _ s_0) (fun hHeld => ?_)
  ((refine wpAnyH_take (i := 0) (v := ?_) rfl (by kernel_rfl) (by kernel_rfl) (by kernel_rfl) (fun _ _ _ h => h) (Or.inl ⟨by rfl, ?_⟩) (by assumption) ?_; rotate_left; (next => ((intro X hX; (try dsimp only at hX); go_simp); try with_reducible rfl))); (try simp only [Act.put, List.getElem_toArray, List.getElem_cons_succ, List.getElem_cons_zero, List.setIfInBounds_toArray, List.set_cons_zero, List.set_cons_succ]); (refine wpAnyH_take (i := 1) (v := ?_) rfl (by kernel_rfl) (by kernel_rfl) (by kernel_rfl) (fun _ _ _ h => h) (Or.inl ⟨by rfl, ?_⟩) (by assumption) ?_; rotate_left; (next => ((intro X hX; (try dsimp only at hX); go_simp); try with_reducible rfl))); (try simp only [Act.put, List.getElem_toArray, List.getElem_cons_succ, List.getElem_cons_zero, List.setIfInBounds_toArray, List.set_cons_zero, List.set_cons_succ]); (refine wpAnyH_take (i := 2) (v := ?_) rfl (by kernel_rfl) (by kernel_rfl) (by kernel_rfl) (fun _ _ _ h => h) (Or.inl ⟨by rfl, ?_⟩) (by assumption) ?_; rotate_left; (next => ((intro X hX; (try dsimp only at hX); go_simp); try with_reducible rfl))); (try simp only [Act.put, List.getElem_toArray, List.getElem_cons_succ, List.getElem_cons_zero, List.setIfInBounds_toArray, List.set_cons_zero, List.set_cons_succ]); (refine wpAnyH_take (i := 3) (v := ?_) rfl (by kernel_rfl) (by kernel_rfl) (by kernel_rfl) (fun _ _ _ h => h) (Or.inl ⟨by rfl, ?_⟩) (by assumption) ?_; rotate_left; (next => ((intro X hX; (try dsimp only at hX); go_simp); try with_reducible rfl))); (try simp only [Act.put, List.getElem_toArray, List.getElem_cons_succ, List.getElem_cons_zero, List.setIfInBounds_toArray, List.set_cons_zero, List.set_cons_succ]); (refine wpAnyH_take (i := 4) (v := ?_) rfl (by kernel_rfl) (by kernel_rfl) (by kernel_rfl) (fun _ _ _ h => h) (Or.inl ⟨by rfl, ?_⟩) (by assumption) ?_; rotate_left; (next => ((intro X hX; (try dsimp only at hX); go_simp); try with_reducible rfl))); (try simp only [Act.put, List.getElem_toArray, List.getElem_cons_succ, List.getElem_cons_zero, List.setIfInBounds_toArray, List.set_cons_zero, List.set_cons_succ]); (refine wpAnyH_take (i := 5) (v := ?_) rfl (by kernel_rfl) (by kernel_rfl) (by kernel_rfl) (fun _ _ _ h => h) (Or.inl ⟨by rfl, ?_⟩) (by assumption) ?_; rotate_left; (next => ((intro X hX; (try dsimp only at hX); go_simp); try with_reducible rfl))); (try simp only [Act.put, List.getElem_toArray, List.getElem_cons_succ, List.getElem_cons_zero, List.setIfInBounds_toArray, List.set_cons_zero, List.set_cons_succ]); (refine wpAnyH_take (i := 6) (v := ?_) rfl (by kernel_rfl) (by kernel_rfl) (by kernel_rfl) (fun _ _ _ h => h) (Or.inl ⟨by rfl, ?_⟩) (by assumption) ?_; rotate_left; (next => ((intro X hX; (try dsimp only at hX); go_simp); try with_reducible rfl))); (try simp only [Act.put, List.getElem_toArray, List.getElem_cons_succ, List.getElem_cons_zero, List.setIfInBounds_toArray, List.set_cons_zero, List.set_cons_succ]); (refine wpAnyH_take (i := 7) (v := ?_) rfl (by kernel_rfl) (by kernel_rfl) (by kernel_rfl) (fun _ _ _ h => h) (Or.inl ⟨by rfl, ?_⟩) (by assumption) ?_; rotate_left; (next => ((intro X hX; (try dsimp only at hX); go_simp); try with_reducible rfl))); (try simp only [Act.put, List.getElem_toArray, List.getElem_cons_succ, List.getElem_cons_zero, List.setIfInBounds_toArray, List.set_cons_zero, List.set_cons_succ]); (refine wpAnyH_take (i := 8) (v := ?_) rfl (by kernel_rfl) (by kernel_rfl) (by kernel_rfl) (fun _ _ _ h => h) (Or.inl ⟨by rfl, ?_⟩) (by assumption) ?_; rotate_left; (next => ((intro X hX; (try dsimp only at hX); go_simp); try with_reducible rfl))); (try simp only [Act.put, List.getElem_toArray, List.getElem_cons_succ, List.getElem_cons_zero, List.setIfInBounds_toArray, List.set_cons_zero, List.set_cons_succ]); (refine wpAnyH_take (i := 9) (v := ?_) rfl (by kernel_rfl) (by kernel_rfl) (by kernel_rfl) (fun _ _ _ h => h) (Or.inl ⟨by rfl, ?_⟩) (by assumption) ?_; rotate_left; (next => ((intro X hX; (try dsimp only at hX); go_simp); try with_reducible rfl))); (try simp only [Act.put, List.getElem_toArray, List.getElem_cons_succ, List.getElem_cons_zero, List.setIfInBounds_toArray, List.set_cons_zero, List.set_cons_succ]))
  (refine wpAnyH_ready (rs := [10]) (by kernel_rfl) (by simp) ?_; refine AllReadyH.cons rfl (fun K hK => ?_) AllReadyH.nil)
  go_simp
  refine (l4CanGo_calls W x r _ (hW0.out.below (below_st hbX.out s_0)) (hS0.out.below (below_st hbX.out s_0)) (hkr.out.below (below_st hbX.out s_0)) hw hRk (by omega)).mono ?_
  rw [hrd]
  rintro e' w3 ⟨rfl, hb⟩
  have hb3 := Asd.mk (below_st s_0 hb)
  clear hb
  refine hK.out _ _ (hkeep.out _ hb3.out) (fun hHeld => ?_)
  clear hK K
  ((refine wpAnyH_take (i := 11) (v := ?_) rfl (by kernel_rfl) (by kernel_rfl) (by kernel_rfl) (fun _ _ _ h => h) (Or.inl ⟨by rfl, ?_⟩) (by assumption) ?_; rotate_left; (next => ((intro X hX; (try dsimp only at hX); go_simp); try with_reducible rfl))); (try simp only [Act.put, List.getElem_toArray, List.getElem_cons_succ, List.getElem_cons_zero, List.setIfInBounds_toArray, List.set_cons_zero, List.set_cons_succ]); (refine wpAnyH_take (i := 12) (v := ?_) rfl (by kernel_rfl) (by kernel_rfl) (by kernel_rfl) (fun _ _ _ h => h) (Or.inl ⟨by rfl, ?_⟩) (by assumption) ?_; rotate_left; (next => ((intro X hX; (try dsimp only at hX); go_simp); try with_reducible rfl))); (try simp only [Act.put, List.getElem_toArray, List.getElem_cons_succ, List.getElem_cons_zero, List.setIfInBounds_toArray, List.set_cons_zero, List.set_cons_succ]))
  refine wpAnyH_done (by kernel_rfl) ?_ _
  clear hHeld s_0
  clear hkeep k0 k1 k2 k3 k4 k5 k6
  have hbw3 := Asd.mk (below_st hbX.out hb3.out)
  have zX := zX.out
  have hz3 := hb3.out.size
  have zw3 : w.heap.size + 1 + 1 < w3.heap.size := by omega
  replace b0 := cell_below hb3.out b0
  replace b1 := cell_below hb3.out b1
  replace o0 := cell_below hb3.out o0
  replace o1 := cell_below hb3.out o1
  replace of0 := (hb3.out.frozen (p := ⟨w.heap.size + 1 + 1, 0, none⟩) (by simp; omega)).trans of0
  replace of1 := (hb3.out.frozen (p := ⟨w.heap.size + 1 + 1, 1, none⟩) (by simp; omega)).trans of1
  replace zX := Asd.mk zX
  go_wp2_with fail
  refine (l4Copy_calls x _ (hS0.out.below (by repeat (first | (with_reducible exact Below.refl _ _) | (with_reducible exact hbw3.out) | (with_reducible refine below_al ?_ _) | (with_reducible refine below_dr ?_ _) | (with_reducible refine below_d1 ?_) | ((with_reducible refine Below.setCell ?_ ?_ _); rotate_left; (next => first | (simp; done) | (simp; omega) | omega))))) (by omega) hro hTx.out).mono ?_
  rintro e' w8 ⟨y0, y1, rfl, hs, hb8⟩
  obtain ⟨_, _, he, p0, p1⟩ := State.ropen (Lies.reps hs)
  obtain ⟨A8, d8, rfl, _, _⟩ := rep_len p0
  obtain ⟨B8, e8, rfl, _, _⟩ := rep_len p1
  cases he
  have hb8w := Asd.mk (below_st hbw3.out (show Below w3.heap.size w3 w8 from by repeat (first | (with_reducible exact Below.refl _ _) | (with_reducible exact hb8) | (with_reducible refine below_al ?_ _) | (with_reducible refine below_dr ?_ _) | (with_reducible refine below_d1 ?_) | ((with_reducible refine Below.setCell ?_ ?_ _); rotate_left; (next => first | (simp; done) | (simp; omega) | omega)))))
  have o0' := cell_below hb8 o0
  have o1' := cell_below hb8 o1
  have of0' := (hb8.frozen (p := ⟨w.heap.size + 1 + 1, 0, none⟩) (by simp; omega)).trans of0
  have of1' := (hb8.frozen (p := ⟨w.heap.size + 1 + 1, 1, none⟩) (by simp; omega)).trans of1
  have hs8 := Asd.mk hs.lies
  have zw8 : w.heap.size + 1 + 1 < w8.heap.size := by have := hb8.size; omega
  clear hs p0 p1 hb8 o0 o1 of0 of1
  go_wp2
  refine bodyPost_ret (v := .agg #[.slice A8 x.Roots.length d8, .slice B8 x.Runs.length e8]) (by simp [results, Tryz.results72, go_sem, *]) rfl ?_
  exact ⟨_, _, rfl, Lies.reps (Lies.set (p := ⟨w.heap.size + 1 + 1, 1, none⟩) (Lies.set (p := ⟨w.heap.size + 1 + 1, 0, none⟩) hs8.out (by simp; omega) _) (by simp; omega) _), by repeat (first | (with_reducible exact Below.refl _ _) | (with_reducible exact hb8w.out) | (with_reducible refine below_al ?_ _) | (with_reducible refine below_dr ?_ _) | (with_reducible refine below_d1 ?_) | ((with_reducible refine Below.setCell ?_ ?_ _); rotate_left; (next => first | (simp; done) | (simp; omega) | omega)))⟩
set_option maxRecDepth 100000 in
set_option maxHeartbeats 4000000 in
theorem l4Do_none {t tN tS tC : Nat} (W : Web) (x : State) (q : ByteArray) (w : World) {us vs : List Value} (hW : reps w (W.c tN tS tC) us) (h : reps w (State.c t x) vs) (hw : checkWeb W = 0) (hI : Inv W x.Runs) (hr : runOf x.Runs q = none) (hro : x.Roots.length ≤ 1000000) :
    Calls Tryz.prog 72 #[.agg us.toArray, .agg vs.toArray, .string q] w (DoR x w) := by
  have hTx := Asd.mk (show ∀ y ∈ x.Runs, y.Texts.length ≤ 1000000 from fun y hy => by have h1 := (hI.ok y hy).many; have h2 := (hI.ok y hy).vis1; omega)
  have hM := Asd.mk (atR_none hr)
  have hRl : x.Runs.length ≤ 60 := by have := hI.length hw; have := (checkWeb_ok hw).1; omega
  obtain ⟨v0, rfl, h0⟩ := Web.ropen hW
  obtain ⟨A, c, rfl, _, _⟩ := rep_len h0
  have hS0 := Asd.mk h
  obtain ⟨u0, u1, rfl, g0, g1⟩ := State.ropen h
  obtain ⟨D, k, rfl, _, _⟩ := rep_len g0
  obtain ⟨B, d, rfl, _, _⟩ := rep_len g1
  clear hW h h0 g0 g1 hr
  obtain ⟨X, eX⟩ : ∃ X : World, X = ((w.alloc (.cells #[.slice A W.Nodes.length c] 34)).alloc (.cells #[.slice D x.Roots.length k, .slice B x.Runs.length d] 38)).alloc (.cells #[.slice none 0 0, .slice none 0 0] 38) := ⟨_, rfl⟩
  have hbX := Asd.mk (show Below w.heap.size w X from eX ▸ by repeat (first | (with_reducible exact Below.refl _ _) | (with_reducible exact Below.refl _ _) | (with_reducible refine below_al ?_ _) | (with_reducible refine below_dr ?_ _) | (with_reducible refine below_d1 ?_) | ((with_reducible refine Below.setCell ?_ ?_ _); rotate_left; (next => first | (simp; done) | (simp; omega) | omega))))
  have a0 : X.cell? ⟨w.heap.size, 0, none⟩ = some (.slice A W.Nodes.length c) := by rw [eX]; go_simp
  have b0 : X.cell? ⟨w.heap.size + 1, 0, none⟩ = some (.slice D x.Roots.length k) := by rw [eX]; go_simp
  have b1 : X.cell? ⟨w.heap.size + 1, 1, none⟩ = some (.slice B x.Runs.length d) := by rw [eX]; go_simp
  have o0 : X.cell? ⟨w.heap.size + 1 + 1, 0, none⟩ = some (.slice none 0 0) := by rw [eX]; go_simp
  have o1 : X.cell? ⟨w.heap.size + 1 + 1, 1, none⟩ = some (.slice none 0 0) := by rw [eX]; go_simp
  have of0 : X.frozen? ⟨w.heap.size + 1 + 1, 0, none⟩ = false := by rw [eX]; go_simp
  have of1 : X.frozen? ⟨w.heap.size + 1 + 1, 1, none⟩ = false := by rw [eX]; go_simp
  have zX : Asd (X.heap.size = w.heap.size + 1 + 1 + 1) := Asd.mk (by rw [eX]; simp)
  go_enter Tryz.func72, Tryz.ntmps72
  go_upto_region 1 with (fail)
  rw [← eX]
  clear eX
  go_wp2_with fail
  refine (l4At_calls x q _ (hS0.out.below hbX.out)).mono ?_
  rw [hM.out]
  rintro e' w2 ⟨rfl, hb⟩
  have hb2 := Asd.mk hb
  clear hb
  replace b0 := cell_below hb2.out b0
  replace b1 := cell_below hb2.out b1
  replace o0 := cell_below hb2.out o0
  replace o1 := cell_below hb2.out o1
  have zw2 : w.heap.size + 1 + 1 < w2.heap.size := by have h1 := zX.out; have h2 := hb2.out.size; omega
  replace of0 := (hb2.out.frozen (p := ⟨w.heap.size + 1 + 1, 0, none⟩) (by have h1 := zX.out; simp; omega)).trans of0
  replace of1 := (hb2.out.frozen (p := ⟨w.heap.size + 1 + 1, 1, none⟩) (by have h1 := zX.out; simp; omega)).trans of1
  go_upto_region 2 with (fail)
  go_quiet (fail)
  obtain ⟨w3, ew3⟩ : ∃ w3, w3 = w2.drewN nq := ⟨_, rfl⟩
  have hb3 := Asd.mk (show Below X.heap.size X w3 from ew3 ▸ below_st hb2.out (by repeat (first | (with_reducible exact Below.refl _ _) | (with_reducible exact Below.refl _ _) | (with_reducible refine below_al ?_ _) | (with_reducible refine below_dr ?_ _) | (with_reducible refine below_d1 ?_) | ((with_reducible refine Below.setCell ?_ ?_ _); rotate_left; (next => first | (simp; done) | (simp; omega) | omega)))))
  have b23 : Below w2.heap.size w2 w3 := ew3 ▸ by repeat (first | (with_reducible exact Below.refl _ _) | (with_reducible exact Below.refl _ _) | (with_reducible refine below_al ?_ _) | (with_reducible refine below_dr ?_ _) | (with_reducible refine below_d1 ?_) | ((with_reducible refine Below.setCell ?_ ?_ _); rotate_left; (next => first | (simp; done) | (simp; omega) | omega)))
  replace b0 := cell_below b23 b0
  replace b1 := cell_below b23 b1
  replace o0 := cell_below b23 o0
  replace o1 := cell_below b23 o1
  replace of0 := (b23.frozen (p := ⟨w.heap.size + 1 + 1, 0, none⟩) (by simp; omega)).trans of0
  replace of1 := (b23.frozen (p := ⟨w.heap.size + 1 + 1, 1, none⟩) (by simp; omega)).trans of1
  rw [← ew3]
  clear ew3 b23 hb2 a0
  have hbw3 := Asd.mk (below_st hbX.out hb3.out)
  have zX := zX.out
  have hz3 := hb3.out.size
  have zw3 : w.heap.size + 1 + 1 < w3.heap.size := by omega
  replace zX := Asd.mk zX
  go_wp2_with fail
  refine (l4Copy_calls x _ (hS0.out.below (by repeat (first | (with_reducible exact Below.refl _ _) | (with_reducible exact hbw3.out) | (with_reducible refine below_al ?_ _) | (with_reducible refine below_dr ?_ _) | (with_reducible refine below_d1 ?_) | ((with_reducible refine Below.setCell ?_ ?_ _); rotate_left; (next => first | (simp; done) | (simp; omega) | omega))))) (by omega) hro hTx.out).mono ?_
  rintro e' w8 ⟨y0, y1, rfl, hs, hb8⟩
  obtain ⟨_, _, he, p0, p1⟩ := State.ropen (Lies.reps hs)
  obtain ⟨A8, d8, rfl, _, _⟩ := rep_len p0
  obtain ⟨B8, e8, rfl, _, _⟩ := rep_len p1
  cases he
  have hb8w := Asd.mk (below_st hbw3.out (show Below w3.heap.size w3 w8 from by repeat (first | (with_reducible exact Below.refl _ _) | (with_reducible exact hb8) | (with_reducible refine below_al ?_ _) | (with_reducible refine below_dr ?_ _) | (with_reducible refine below_d1 ?_) | ((with_reducible refine Below.setCell ?_ ?_ _); rotate_left; (next => first | (simp; done) | (simp; omega) | omega)))))
  have o0' := cell_below hb8 o0
  have o1' := cell_below hb8 o1
  have of0' := (hb8.frozen (p := ⟨w.heap.size + 1 + 1, 0, none⟩) (by simp; omega)).trans of0
  have of1' := (hb8.frozen (p := ⟨w.heap.size + 1 + 1, 1, none⟩) (by simp; omega)).trans of1
  have hs8 := Asd.mk hs.lies
  have zw8 : w.heap.size + 1 + 1 < w8.heap.size := by have := hb8.size; omega
  clear hs p0 p1 hb8 o0 o1 of0 of1
  go_wp2
  refine bodyPost_ret (v := .agg #[.slice A8 x.Roots.length d8, .slice B8 x.Runs.length e8]) (by simp [results, Tryz.results72, go_sem, *]) rfl ?_
  exact ⟨_, _, rfl, Lies.reps (Lies.set (p := ⟨w.heap.size + 1 + 1, 1, none⟩) (Lies.set (p := ⟨w.heap.size + 1 + 1, 0, none⟩) hs8.out (by simp; omega) _) (by simp; omega) _), by repeat (first | (with_reducible exact Below.refl _ _) | (with_reducible exact hb8w.out) | (with_reducible refine below_al ?_ _) | (with_reducible refine below_dr ?_ _) | (with_reducible refine below_d1 ?_) | ((with_reducible refine Below.setCell ?_ ?_ _); rotate_left; (next => first | (simp; done) | (simp; omega) | omega)))⟩
end Go.Proofs.YtkpkfihaihoaeaaGreatDoor.M
end
section
set_option linter.unusedVariables false
set_option linter.unusedSimpArgs false
namespace Go.Proofs.YtkpkfihaihoaeaaGreatDoor.M
open Go.RowKit
def doC (W : Web) (s : State) (q : ByteArray) : State := if validS W s = true then doT W s q else ⟨[], []⟩
theorem doC_yes {W : Web} {s : State} {q : ByteArray} (h : validS W s = true) : doC W s q = doT W s q := if_pos h
theorem doC_no {W : Web} {s : State} {q : ByteArray} (h : validS W s = false) : doC W s q = ⟨[], []⟩ := if_neg (by rw [h]; decide)
theorem doT_roots (W : Web) (s : State) (q : ByteArray) : (doT W s q).Roots = s.Roots := by
  unfold doT
  split
  · split <;> rfl
  · rfl
theorem doT_reach {W : Web} {s : State} {q : ByteArray} (h : Reach W s.Roots s.Runs) : Reach W s.Roots (doT W s q).Runs := by
  unfold doT
  split
  · rename_i r hr
    split
    · rename_i hd; exact Reach.step h (runOf_some hr).1 hd
    · exact h
  · exact h
theorem inv_texts {W : Web} {R : List Run} (hI : Inv W R) : ∀ r ∈ R, r.Texts.length ≤ 1000000 := fun y hy => by have h1 := (hI.ok y hy).many; have h2 := (hI.ok y hy).vis1; omega
theorem inv_len {W : Web} {R : List Run} (hw : checkWeb W = 0) (hI : Inv W R) : R.length ≤ 60 := by have := hI.length hw; have := (checkWeb_ok hw).1; omega
theorem mades_nil (w w' : World) : Mades w w' (State.c 84 ⟨[], []⟩) [.slice none 0 0, .slice none 0 0] := mades_state (own_nil _ _ _) List.nodup_nil (fun k hk => by cases hk) (Lie.nil _ _ _ _) (Nat.le_refl _)
theorem l4Do_calls {t tN tS tC : Nat} (W : Web) (x : State) (q : ByteArray) (w : World) {us vs : List Value} (hW : reps w (W.c tN tS tC) us) (h : reps w (State.c t x) vs) (hw : checkWeb W = 0) (hI : Inv W x.Runs) (hro : x.Roots.length ≤ 1000000) :
    Calls Tryz.prog 72 #[.agg us.toArray, .agg vs.toArray, .string q] w (DoR (doT W x q) w) := by
  cases hr : runOf x.Runs q with
  | none => rw [doT_none hr]; exact l4Do_none W x q w hW h hw hI hr hro
  | some r =>
    cases hd : isReady W x.Runs r with
    | false => rw [doT_not hr hd]; exact l4Do_not W x q r w hW h hw hI hr hd hro
    | true =>
      rw [doT_yes hr hd]
      refine (l4Do_go W x q r w hW h hw hI hr hd hro).mono ?_
      rintro e' w' ⟨v0, v1, he, hs, hb⟩
      exact ⟨v0, v1, he, hs.reps, hb⟩
set_option maxRecDepth 100000 in
set_option maxHeartbeats 4000000 in
theorem sDo_calls {tN tS tC t : Nat} (W : Web) (s : State) (q : ByteArray) (w : World) {vs us : List Value} (hW : reps w (W.c tN tS tC) vs) (h : reps w (State.c t s) us) (hz : W.Sm) :
    Calls Tryz.prog 49 #[.agg vs.toArray, .agg us.toArray, .string q] w (StateP (doC W s q).Roots (doC W s q).Runs w) := by
  obtain ⟨v0, rfl, h0⟩ := Web.ropen hW
  obtain ⟨A, c, rfl, _, _⟩ := rep_len h0
  obtain ⟨u0, u1, rfl, g0, g1⟩ := State.ropen h
  obtain ⟨D, k, rfl, _, _⟩ := rep_len g0
  obtain ⟨B, d, rfl, _, _⟩ := rep_len g1
  replace hW := Asd.mk hW
  replace h := Asd.mk h
  clear h0 g0 g1
  have HB := Asd.mk (below_al (below_al (below_al (Below.refl w.heap.size w) (.cells #[.slice A W.Nodes.length c] 34)) (.cells #[.slice D s.Roots.length k, .slice B s.Runs.length d] 38)) (.cells #[.slice none 0 0, .slice none 0 0] 38))
  obtain ⟨g, hg⟩ : ∃ g, validS W s = g := ⟨_, rfl⟩
  go_enter Tryz.func49, Tryz.ntmps49
  go_wp2_with fail
  refine (sValidState_calls W s _ (hW.out.below HB.out) (h.out.below HB.out) hz).mono ?_
  rw [hg]
  rintro e w1 ⟨rfl, hb⟩
  obtain ⟨hcx, hfx⟩ := bcell hb
  have hzz : w.heap.size + 1 + 1 < w1.heap.size := by have := hb.size; simp at this; omega
  have hb1 := Asd.mk (below_st HB.out hb)
  have a0 : w1.cell? ⟨w.heap.size, 0, none⟩ = some (.slice A W.Nodes.length c) := by rw [hcx _ _ (by first | (simp; done) | (simp; omega))]; go_simp
  have b0 : w1.cell? ⟨w.heap.size + 1, 0, none⟩ = some (.slice D s.Roots.length k) := by rw [hcx _ _ (by first | (simp; done) | (simp; omega))]; go_simp
  have b1 : w1.cell? ⟨w.heap.size + 1, 1, none⟩ = some (.slice B s.Runs.length d) := by rw [hcx _ _ (by first | (simp; done) | (simp; omega))]; go_simp
  have oR := Asd.mk (show w1.heap[w.heap.size + 1 + 1]? = some (.cells #[.slice none 0 0, .slice none 0 0] 38 (0, 0)) from (hb.block _ (by simp)).trans (by
    have e : ((w.alloc (.cells #[.slice A W.Nodes.length c] 34)).alloc (.cells #[.slice D s.Roots.length k, .slice B s.Runs.length d] 38)).heap.size = w.heap.size + 1 + 1 := by simp
    rw [← e]; exact heap_alloc_new _ _))
  have o0 : w1.cell? ⟨w.heap.size + 1 + 1, 0, none⟩ = some (.slice none 0 0) := cellOf oR.out rfl
  have o1 : w1.cell? ⟨w.heap.size + 1 + 1, 1, none⟩ = some (.slice none 0 0) := cellOf oR.out rfl
  have of0 := frozenOf oR.out 0
  have of1 := frozenOf oR.out 1
  clear hb hcx hfx
  cases g with
  | false =>
    have hq := Asd.mk (doC_no (q := q) hg)
    clear hg
    go_wp2
    refine bodyPost_ret (v := .agg #[.slice none 0 0, .slice none 0 0]) (by simp [results, Tryz.results49, go_sem, *]) rfl ?_
    rw [hq.out]
    exact ⟨_, _, rfl, mades_nil _ _, by repeat (first | (with_reducible exact Below.refl _ _) | (with_reducible exact hb1.out) | (with_reducible refine below_al ?_ _) | (with_reducible refine below_dr ?_ _) | (with_reducible refine below_d1 ?_) | ((with_reducible refine Below.setCell ?_ ?_ _); rotate_left; (next => first | (simp; done) | (simp; omega) | omega)))⟩
  | true =>
    have hq := Asd.mk (doC_yes (q := q) hg)
    obtain ⟨hw, hro, hR⟩ := validS_reach hg
    have hrl := rootsOk_le hro
    have hR2 := Asd.mk (doT_reach (q := q) hR)
    have hrt := doT_roots W s q
    obtain ⟨s2, hs2⟩ : ∃ s2, doT W s q = s2 := ⟨_, rfl⟩
    rw [hs2] at hq hR2 hrt
    have hI := Asd.mk (hR.inv hw)
    have hI2 := Asd.mk (hR2.out.inv hw)
    have hl2 := inv_len hw hI2.out
    replace hrt := Asd.mk hrt
    clear hg hR
    go_upto_region 3 with (fail)
    go_wp2_with fail
    refine (l4Do_calls W s q _ (hW.out.below (by repeat (first | (with_reducible exact Below.refl _ _) | (with_reducible exact hb1.out) | (with_reducible refine below_al ?_ _) | (with_reducible refine below_dr ?_ _) | (with_reducible refine below_d1 ?_) | ((with_reducible refine Below.setCell ?_ ?_ _); rotate_left; (next => first | (simp; done) | (simp; omega) | omega))))) (h.out.below (by repeat (first | (with_reducible exact Below.refl _ _) | (with_reducible exact hb1.out) | (with_reducible refine below_al ?_ _) | (with_reducible refine below_dr ?_ _) | (with_reducible refine below_d1 ?_) | ((with_reducible refine Below.setCell ?_ ?_ _); rotate_left; (next => first | (simp; done) | (simp; omega) | omega))))) hw hI.out (by omega)).mono ?_
    rw [hs2]
    rintro e w2 ⟨y0, y1, rfl, hs, hb⟩
    obtain ⟨_, _, he, p0, p1⟩ := State.ropen hs
    obtain ⟨A8, d8, rfl, _, _⟩ := rep_len p0
    obtain ⟨B8, e8, rfl, _, _⟩ := rep_len p1
    cases he
    have hb2 := Asd.mk (below_st hb1.out (show Below w1.heap.size w1 w2 from by repeat (first | (with_reducible exact Below.refl _ _) | (with_reducible exact hb) | (with_reducible refine below_al ?_ _) | (with_reducible refine below_dr ?_ _) | (with_reducible refine below_d1 ?_) | ((with_reducible refine Below.setCell ?_ ?_ _); rotate_left; (next => first | (simp; done) | (simp; omega) | omega)))))
    have o0' := cell_below (show Below w1.heap.size w1 w2 from by repeat (first | (with_reducible exact Below.refl _ _) | (with_reducible exact hb) | (with_reducible refine below_al ?_ _) | (with_reducible refine below_dr ?_ _) | (with_reducible refine below_d1 ?_) | ((with_reducible refine Below.setCell ?_ ?_ _); rotate_left; (next => first | (simp; done) | (simp; omega) | omega)))) o0
    have o1' := cell_below (show Below w1.heap.size w1 w2 from by repeat (first | (with_reducible exact Below.refl _ _) | (with_reducible exact hb) | (with_reducible refine below_al ?_ _) | (with_reducible refine below_dr ?_ _) | (with_reducible refine below_d1 ?_) | ((with_reducible refine Below.setCell ?_ ?_ _); rotate_left; (next => first | (simp; done) | (simp; omega) | omega)))) o1
    have of0' := ((show Below w1.heap.size w1 w2 from by repeat (first | (with_reducible exact Below.refl _ _) | (with_reducible exact hb) | (with_reducible refine below_al ?_ _) | (with_reducible refine below_dr ?_ _) | (with_reducible refine below_d1 ?_) | ((with_reducible refine Below.setCell ?_ ?_ _); rotate_left; (next => first | (simp; done) | (simp; omega) | omega)))).frozen (p := ⟨w.heap.size + 1 + 1, 0, none⟩) (by simp; omega)).trans of0
    have of1' := ((show Below w1.heap.size w1 w2 from by repeat (first | (with_reducible exact Below.refl _ _) | (with_reducible exact hb) | (with_reducible refine below_al ?_ _) | (with_reducible refine below_dr ?_ _) | (with_reducible refine below_d1 ?_) | ((with_reducible refine Below.setCell ?_ ?_ _); rotate_left; (next => first | (simp; done) | (simp; omega) | omega)))).frozen (p := ⟨w.heap.size + 1 + 1, 1, none⟩) (by simp; omega)).trans of1
    have zw2 : w.heap.size + 1 + 1 < w2.heap.size := by have := (show Below w1.heap.size w1 w2 from by repeat (first | (with_reducible exact Below.refl _ _) | (with_reducible exact hb) | (with_reducible refine below_al ?_ _) | (with_reducible refine below_dr ?_ _) | (with_reducible refine below_d1 ?_) | ((with_reducible refine Below.setCell ?_ ?_ _); rotate_left; (next => first | (simp; done) | (simp; omega) | omega)))).size; omega
    replace hs := Asd.mk hs
    clear hb p0 p1 o0 o1 of0 of1
    go_wp2_with fail
    refine (l4Copy_calls s2 _ (hs.out.below (by repeat (first | (with_reducible exact Below.refl _ _) | (with_reducible exact Below.refl _ _) | (with_reducible refine below_al ?_ _) | (with_reducible refine below_dr ?_ _) | (with_reducible refine below_d1 ?_) | ((with_reducible refine Below.setCell ?_ ?_ _); rotate_left; (next => first | (simp; done) | (simp; omega) | omega))))) (by omega) (by rw [hrt.out]; omega) (inv_texts hI2.out)).mono ?_
    rintro e w3 ⟨y2, y3, rfl, hM, hb⟩
    obtain ⟨_, _, he, p0, p1⟩ := State.ropen (Lies.reps hM)
    obtain ⟨A9, d9, rfl, _, _⟩ := rep_len p0
    obtain ⟨B9, e9, rfl, _, _⟩ := rep_len p1
    cases he
    have b23 : Below w2.heap.size w2 w3 := by repeat (first | (with_reducible exact Below.refl _ _) | (with_reducible exact hb) | (with_reducible refine below_al ?_ _) | (with_reducible refine below_dr ?_ _) | (with_reducible refine below_d1 ?_) | ((with_reducible refine Below.setCell ?_ ?_ _); rotate_left; (next => first | (simp; done) | (simp; omega) | omega)))
    have hb3 := Asd.mk (below_st hb2.out b23)
    have o0 := cell_below b23 o0'
    have o1 := cell_below b23 o1'
    have of0 := (b23.frozen (p := ⟨w.heap.size + 1 + 1, 0, none⟩) (by simp; omega)).trans of0'
    have of1 := (b23.frozen (p := ⟨w.heap.size + 1 + 1, 1, none⟩) (by simp; omega)).trans of1'
    have zw3 : w.heap.size + 1 + 1 < w3.heap.size := by have := b23.size; omega
    have hL := Asd.mk (Mades.lies hM)
    clear hb hM p0 p1 o0' o1' of0' of1' b23
    go_wp2
    refine bodyPost_ret (v := .agg #[.slice A9 s2.Roots.length d9, .slice B9 s2.Runs.length e9]) (by simp [results, Tryz.results49, go_sem, *]) rfl ?_
    rw [hq.out]
    exact ⟨_, _, rfl, Lies.mades (Lies.mono (Lies.set (p := ⟨w.heap.size + 1 + 1, 1, none⟩) (Lies.set (p := ⟨w.heap.size + 1 + 1, 0, none⟩) hL.out (by first | (simp; done) | (simp; omega) | omega) _) (by first | (simp; done) | (simp; omega) | omega) _) (by first | (simp; done) | (simp; omega) | omega)), by repeat (first | (with_reducible exact Below.refl _ _) | (with_reducible exact hb3.out) | (with_reducible refine below_al ?_ _) | (with_reducible refine below_dr ?_ _) | (with_reducible refine below_d1 ?_) | ((with_reducible refine Below.setCell ?_ ?_ _); rotate_left; (next => first | (simp; done) | (simp; omega) | omega)))⟩
set_option maxRecDepth 100000 in
set_option maxHeartbeats 4000000 in
theorem Do_calls {tN tS tC t : Nat} (W : Web) (s : State) (q : ByteArray) (w : World) {vs us : List Value} (hW : reps w (W.c tN tS tC) vs) (h : reps w (State.c t s) us) (hz : W.Sm) (hgl : 3 < w.heap.size) (hgt : w.cell? ⟨3, 15, none⟩ = some (.int .u8 4)) :
    Calls Tryz.prog 50 #[.agg vs.toArray, .agg us.toArray, .string q] w (StateP (doC W s q).Roots (doC W s q).Runs w) := by
  obtain ⟨v0, rfl, h0⟩ := Web.ropen hW
  obtain ⟨A, c, rfl, _, _⟩ := rep_len h0
  obtain ⟨u0, u1, rfl, g0, g1⟩ := State.ropen h
  obtain ⟨D, k, rfl, _, _⟩ := rep_len g0
  obtain ⟨B, d, rfl, _, _⟩ := rep_len g1
  replace hW := Asd.mk hW
  replace h := Asd.mk h
  clear h0 g0 g1
  have HB := Asd.mk (below_al (below_al (below_al (Below.refl w.heap.size w) (.cells #[.slice A W.Nodes.length c] 34)) (.cells #[.slice D s.Roots.length k, .slice B s.Runs.length d] 38)) (.cells #[.slice none 0 0, .slice none 0 0] 38))
  go_enter Tryz.func50, Tryz.ntmps50
  go_wp2_with fail
  refine (load_calls W s _ (hW.out.below HB.out) (h.out.below HB.out) hz (Nat.lt_of_lt_of_le hgl HB.out.size) (cell_below HB.out hgt)).mono ?_
  rintro e w1 ⟨hb, hv⟩
  obtain ⟨hcx, hfx⟩ := bcell hb
  have hzz : w.heap.size + 1 + 1 < w1.heap.size := by have := hb.size; simp at this; omega
  have hb1 := Asd.mk (below_st HB.out hb)
  have oR := Asd.mk (show w1.heap[w.heap.size + 1 + 1]? = some (.cells #[.slice none 0 0, .slice none 0 0] 38 (0, 0)) from (hb.block _ (by simp)).trans (by
    have e : ((w.alloc (.cells #[.slice A W.Nodes.length c] 34)).alloc (.cells #[.slice D s.Roots.length k, .slice B s.Runs.length d] 38)).heap.size = w.heap.size + 1 + 1 := by simp
    rw [← e]; exact heap_alloc_new _ _))
  have o0 : w1.cell? ⟨w.heap.size + 1 + 1, 0, none⟩ = some (.slice none 0 0) := cellOf oR.out rfl
  have o1 : w1.cell? ⟨w.heap.size + 1 + 1, 1, none⟩ = some (.slice none 0 0) := cellOf oR.out rfl
  have of0 := frozenOf oR.out 0
  have of1 := frozenOf oR.out 1
  have hg1 := cell_below hb1.out hgt
  obtain ⟨hv, eg, F, lo, rfl, hlo, hE⟩ | ⟨hv, rfl⟩ := hv
  · have hq := Asd.mk (doC_yes (q := q) hv)
    obtain ⟨hw, hro, hR⟩ := validS_reach hv
    have hrl := rootsOk_le hro
    have hI := Asd.mk (hR.inv hw)
    have hlR := inv_len hw hI.out
    have hgl2 : 3 < lo := by simp at hlo; omega
    have hlo2 : w.heap.size + 1 + 1 < lo := by simp at hlo; omega
    have hE0 := Asd.mk hE
    obtain ⟨m, nv, rv, L, Fr, W0, tN, tS, tC, hX⟩ := hE
    obtain ⟨Ax, cx, Bx, dx, rfl, rfl, _, _, c0, c1, c2⟩ := hX.cells
    have hvq := Asd.mk hv
    clear hb hcx hfx hv hR
    cases hr : runOf s.Runs q with
    | none =>
      have hl := hX.run_none hr
      have hd := Asd.mk (doT_none (W := W) hr)
      replace hX := Asd.mk hX
      clear hr
      go_upto_region 7 with (fail)
      go_wp2_with fail
      refine (state_calls W s.Roots (s.Runs) eg _ _ (hE0.out.later (by repeat (first | (with_reducible exact Below.refl _ _) | (with_reducible exact Below.refl _ _) | (with_reducible refine below_al ?_ _) | (with_reducible refine below_dr ?_ _) | (with_reducible refine below_d1 ?_) | ((with_reducible refine Below.setCell ?_ ?_ _); rotate_left; (next => first | (simp; done) | (simp; omega) | omega))))) (by omega) (by omega) (inv_texts hI.out)).mono ?_
      rintro e w9 ⟨y2, y3, rfl, hM, hb⟩
      obtain ⟨_, _, he, p0, p1⟩ := State.ropen (Lies.reps hM)
      obtain ⟨A9, d9, rfl, _, _⟩ := rep_len p0
      obtain ⟨B9, e9, rfl, _, _⟩ := rep_len p1
      cases he
      have b9 : Below w1.heap.size w1 w9 := by repeat (first | (with_reducible exact Below.refl _ _) | (with_reducible exact hb) | (with_reducible refine below_al ?_ _) | (with_reducible refine below_dr ?_ _) | (with_reducible refine below_d1 ?_) | ((with_reducible refine Below.setCell ?_ ?_ _); rotate_left; (next => first | (simp; done) | (simp; omega) | omega)))
      have hb9 := Asd.mk (below_st hb1.out b9)
      have zx : w.heap.size + 1 + 1 < w1.heap.size := lt_of_heap oR.out
      have oR9 := Asd.mk ((b9.block _ zx).trans oR.out)
      have p9_0 : w9.cell? ⟨w.heap.size + 1 + 1, 0, none⟩ = some (.slice none 0 0) := cellOf oR9.out rfl
      have p9_1 : w9.cell? ⟨w.heap.size + 1 + 1, 1, none⟩ = some (.slice none 0 0) := cellOf oR9.out rfl
      have f9_0 := frozenOf oR9.out 0
      have f9_1 := frozenOf oR9.out 1
      have z9 : w.heap.size + 1 + 1 < w9.heap.size := lt_of_heap oR9.out
      have hL := Asd.mk (Mades.lies hM)
      clear hb hM p0 p1 b9
      go_wp2
      refine bodyPost_ret (v := .agg #[.slice A9 s.Roots.length d9, .slice B9 (s.Runs).length e9]) (by simp [results, Tryz.results50, go_sem, *]) rfl ?_
      rw [hq.out, hd.out]
      exact ⟨_, _, rfl, Lies.mades (Lies.mono (Lies.set (p := ⟨w.heap.size + 1 + 1, 1, none⟩) (Lies.set (p := ⟨w.heap.size + 1 + 1, 0, none⟩) hL.out (by first | (simp; done) | (simp; omega) | omega) _) (by first | (simp; done) | (simp; omega) | omega) _) (by first | (simp; done) | (simp; omega) | omega)), by repeat (first | (with_reducible exact Below.refl _ _) | (with_reducible exact hb9.out) | (with_reducible refine below_al ?_ _) | (with_reducible refine below_dr ?_ _) | (with_reducible refine below_d1 ?_) | ((with_reducible refine Below.setCell ?_ ?_ _); rotate_left; (next => first | (simp; done) | (simp; omega) | omega)))⟩
    | some r =>
      obtain ⟨x, hx, hxr, hl⟩ := hX.run_some hr
      have hok := hI.out.ok r (runOf_some hr).1
      have hmr := (runOf_some hr).1
      have hFa := Asd.mk (hE0.out.above)
      replace hX := Asd.mk hX
      go_upto_region 5 with (fail)
      go_wp2_with fail
      refine (isReady_calls x _ (hX.out.later (by repeat (first | (with_reducible exact Below.refl _ _) | (with_reducible exact Below.refl _ _) | (with_reducible refine below_al ?_ _) | (with_reducible refine below_dr ?_ _) | (with_reducible refine below_d1 ?_) | ((with_reducible refine Below.setCell ?_ ?_ _); rotate_left; (next => first | (simp; done) | (simp; omega) | omega))))) hx hw (by rw [hxr]; exact hok)).mono ?_
      obtain ⟨b, hd⟩ : ∃ b, isReady W s.Runs r = b := ⟨_, rfl⟩
      rw [hxr, hd]
      rintro e w2 ⟨rfl, hb⟩
      have b12 : Below w1.heap.size w1 w2 := by repeat (first | (with_reducible exact Below.refl _ _) | (with_reducible exact hb) | (with_reducible refine below_al ?_ _) | (with_reducible refine below_dr ?_ _) | (with_reducible refine below_d1 ?_) | ((with_reducible refine Below.setCell ?_ ?_ _); rotate_left; (next => first | (simp; done) | (simp; omega) | omega)))
      have hb2 := Asd.mk (below_st hb1.out b12)
      have zx1 : w.heap.size + 1 + 1 < w1.heap.size := lt_of_heap oR.out
      replace oR := Asd.mk ((b12.block _ zx1).trans oR.out)
      replace o0 : w2.cell? ⟨w.heap.size + 1 + 1, 0, none⟩ = some (.slice none 0 0) := cellOf oR.out rfl
      replace o1 : w2.cell? ⟨w.heap.size + 1 + 1, 1, none⟩ = some (.slice none 0 0) := cellOf oR.out rfl
      replace of0 := frozenOf oR.out 0
      replace of1 := frozenOf oR.out 1
      replace hg1 := cell_below b12 hg1
      have hE2 := Asd.mk (hE0.out.later b12)
      replace hr := Asd.mk hr
      clear hb c0 c1 c2 hl b12
      cases b with
      | false =>
        have hd2 := Asd.mk (doT_not hr.out hd)
        clear hd
        go_upto_region 7 with (fail)
        go_wp2_with fail
        refine (state_calls W s.Roots (s.Runs) eg _ _ (hE2.out.later (by repeat (first | (with_reducible exact Below.refl _ _) | (with_reducible exact Below.refl _ _) | (with_reducible refine below_al ?_ _) | (with_reducible refine below_dr ?_ _) | (with_reducible refine below_d1 ?_) | ((with_reducible refine Below.setCell ?_ ?_ _); rotate_left; (next => first | (simp; done) | (simp; omega) | omega))))) (by omega) (by omega) (inv_texts hI.out)).mono ?_
        rintro e w9 ⟨y2, y3, rfl, hM, hb⟩
        obtain ⟨_, _, he, p0, p1⟩ := State.ropen (Lies.reps hM)
        obtain ⟨A9, d9, rfl, _, _⟩ := rep_len p0
        obtain ⟨B9, e9, rfl, _, _⟩ := rep_len p1
        cases he
        have b9 : Below w2.heap.size w2 w9 := by repeat (first | (with_reducible exact Below.refl _ _) | (with_reducible exact hb) | (with_reducible refine below_al ?_ _) | (with_reducible refine below_dr ?_ _) | (with_reducible refine below_d1 ?_) | ((with_reducible refine Below.setCell ?_ ?_ _); rotate_left; (next => first | (simp; done) | (simp; omega) | omega)))
        have hb9 := Asd.mk (below_st hb2.out b9)
        have zx : w.heap.size + 1 + 1 < w2.heap.size := lt_of_heap oR.out
        have oR9 := Asd.mk ((b9.block _ zx).trans oR.out)
        have p9_0 : w9.cell? ⟨w.heap.size + 1 + 1, 0, none⟩ = some (.slice none 0 0) := cellOf oR9.out rfl
        have p9_1 : w9.cell? ⟨w.heap.size + 1 + 1, 1, none⟩ = some (.slice none 0 0) := cellOf oR9.out rfl
        have f9_0 := frozenOf oR9.out 0
        have f9_1 := frozenOf oR9.out 1
        have z9 : w.heap.size + 1 + 1 < w9.heap.size := lt_of_heap oR9.out
        have hL := Asd.mk (Mades.lies hM)
        clear hb hM p0 p1 b9
        go_wp2
        refine bodyPost_ret (v := .agg #[.slice A9 s.Roots.length d9, .slice B9 (s.Runs).length e9]) (by simp [results, Tryz.results50, go_sem, *]) rfl ?_
        rw [hq.out, hd2.out]
        exact ⟨_, _, rfl, Lies.mades (Lies.mono (Lies.set (p := ⟨w.heap.size + 1 + 1, 1, none⟩) (Lies.set (p := ⟨w.heap.size + 1 + 1, 0, none⟩) hL.out (by first | (simp; done) | (simp; omega) | omega) _) (by first | (simp; done) | (simp; omega) | omega) _) (by first | (simp; done) | (simp; omega) | omega)), by repeat (first | (with_reducible exact Below.refl _ _) | (with_reducible exact hb9.out) | (with_reducible refine below_al ?_ _) | (with_reducible refine below_dr ?_ _) | (with_reducible refine below_d1 ?_) | ((with_reducible refine Below.setCell ?_ ?_ _); rotate_left; (next => first | (simp; done) | (simp; omega) | omega)))⟩
      | true =>
        have hd2 := Asd.mk (doT_yes hr.out hd)
        have hI3 := Asd.mk (doRun_inv hw hI.out hmr hd)
        have hl3 := inv_len hw hI3.out
        replace hd := Asd.mk hd
        go_upto_region 6 with (fail)
        go_wp2_with fail
        refine (do_calls q r _ (hE2.out.later (by repeat (first | (with_reducible exact Below.refl _ _) | (with_reducible exact Below.refl _ _) | (with_reducible refine below_al ?_ _) | (with_reducible refine below_dr ?_ _) | (with_reducible refine below_d1 ?_) | ((with_reducible refine Below.setCell ?_ ?_ _); rotate_left; (next => first | (simp; done) | (simp; omega) | omega))))) hr.out hw hI.out hd.out hgl2 (by first | exact hg1 | (go_simp; exact hg1))).mono ?_
        rintro e w3 ⟨rfl, F3, hE3, hm, hs⟩
        have hm2 : MFr F w2 w3 := hm
        have hb3 := Asd.mk (MFr.upon hm2 hb2.out (Nat.le_refl _) (fun b hb => by have := hFa.out b hb; omega))
        have zx2 : w.heap.size + 1 + 1 < w2.heap.size := lt_of_heap oR.out
        replace oR := Asd.mk ((hm2.block _ zx2 (fun hb => by have := hFa.out _ hb; omega)).trans oR.out)
        replace o0 : w3.cell? ⟨w.heap.size + 1 + 1, 0, none⟩ = some (.slice none 0 0) := cellOf oR.out rfl
        replace o1 : w3.cell? ⟨w.heap.size + 1 + 1, 1, none⟩ = some (.slice none 0 0) := cellOf oR.out rfl
        replace of0 := frozenOf oR.out 0
        replace of1 := frozenOf oR.out 1
        replace hE3 := Asd.mk hE3
        clear hm hm2 hs hg1
        go_upto_region 7 with (fail)
        go_wp2_with fail
        refine (state_calls W s.Roots (doRun W s.Runs r) eg _ _ (hE3.out.later (by repeat (first | (with_reducible exact Below.refl _ _) | (with_reducible exact Below.refl _ _) | (with_reducible refine below_al ?_ _) | (with_reducible refine below_dr ?_ _) | (with_reducible refine below_d1 ?_) | ((with_reducible refine Below.setCell ?_ ?_ _); rotate_left; (next => first | (simp; done) | (simp; omega) | omega))))) (by omega) (by omega) (inv_texts hI3.out)).mono ?_
        rintro e w9 ⟨y2, y3, rfl, hM, hb⟩
        obtain ⟨_, _, he, p0, p1⟩ := State.ropen (Lies.reps hM)
        obtain ⟨A9, d9, rfl, _, _⟩ := rep_len p0
        obtain ⟨B9, e9, rfl, _, _⟩ := rep_len p1
        cases he
        have b9 : Below w3.heap.size w3 w9 := by repeat (first | (with_reducible exact Below.refl _ _) | (with_reducible exact hb) | (with_reducible refine below_al ?_ _) | (with_reducible refine below_dr ?_ _) | (with_reducible refine below_d1 ?_) | ((with_reducible refine Below.setCell ?_ ?_ _); rotate_left; (next => first | (simp; done) | (simp; omega) | omega)))
        have hb9 := Asd.mk (below_st hb3.out b9)
        have zx : w.heap.size + 1 + 1 < w3.heap.size := lt_of_heap oR.out
        have oR9 := Asd.mk ((b9.block _ zx).trans oR.out)
        have p9_0 : w9.cell? ⟨w.heap.size + 1 + 1, 0, none⟩ = some (.slice none 0 0) := cellOf oR9.out rfl
        have p9_1 : w9.cell? ⟨w.heap.size + 1 + 1, 1, none⟩ = some (.slice none 0 0) := cellOf oR9.out rfl
        have f9_0 := frozenOf oR9.out 0
        have f9_1 := frozenOf oR9.out 1
        have z9 : w.heap.size + 1 + 1 < w9.heap.size := lt_of_heap oR9.out
        have hL := Asd.mk (Mades.lies hM)
        clear hb hM p0 p1 b9
        go_wp2
        refine bodyPost_ret (v := .agg #[.slice A9 s.Roots.length d9, .slice B9 (doRun W s.Runs r).length e9]) (by simp [results, Tryz.results50, go_sem, *]) rfl ?_
        rw [hq.out, hd2.out]
        exact ⟨_, _, rfl, Lies.mades (Lies.mono (Lies.set (p := ⟨w.heap.size + 1 + 1, 1, none⟩) (Lies.set (p := ⟨w.heap.size + 1 + 1, 0, none⟩) hL.out (by first | (simp; done) | (simp; omega) | omega) _) (by first | (simp; done) | (simp; omega) | omega) _) (by first | (simp; done) | (simp; omega) | omega)), by repeat (first | (with_reducible exact Below.refl _ _) | (with_reducible exact hb9.out) | (with_reducible refine below_al ?_ _) | (with_reducible refine below_dr ?_ _) | (with_reducible refine below_d1 ?_) | ((with_reducible refine Below.setCell ?_ ?_ _); rotate_left; (next => first | (simp; done) | (simp; omega) | omega)))⟩
  · have hq := Asd.mk (doC_no (q := q) hv)
    clear hb hcx hfx hv
    go_wp2
    refine bodyPost_ret (v := .agg #[.slice none 0 0, .slice none 0 0]) (by simp [results, Tryz.results50, go_sem, *]) rfl ?_
    rw [hq.out]
    exact ⟨_, _, rfl, mades_nil _ _, by repeat (first | (with_reducible exact Below.refl _ _) | (with_reducible exact hb1.out) | (with_reducible refine below_al ?_ _) | (with_reducible refine below_dr ?_ _) | (with_reducible refine below_d1 ?_) | ((with_reducible refine Below.setCell ?_ ?_ _); rotate_left; (next => first | (simp; done) | (simp; omega) | omega)))⟩
end Go.Proofs.YtkpkfihaihoaeaaGreatDoor.M
end
section
set_option linter.unusedVariables false
set_option linter.unusedSimpArgs false
namespace Go.Proofs.YtkpkfihaihoaeaaGreatDoor.M
open Go.RowKit
theorem Iv.set {lo hi : Nat} {w : World} {ts : List T} {vs : List Value} (h : Iv lo hi w ts vs) {p : Addr} (hp : p.block < lo) (u : Value) : Iv lo hi (w.setCell p u) ts vs := by
  obtain ⟨F, h1, h2, h3⟩ := h
  exact ⟨F, h1.set (fun hk => by have := h3 _ hk; omega) u, h2, h3⟩
def StG (s : State) (w : World) (e' : Ending) (w' : World) : Prop := ∃ v0 v1, e' = .returned (.agg #[v0, v1]) ∧ Mades w w' (State.c 84 s) [v0, v1] ∧ Below w.heap.size w w'
theorem sDo_gives {tN tS tC t : Nat} (W : Web) (s : State) (q : ByteArray) (w : World) {vs us : List Value} (hW : reps w (W.c tN tS tC) vs) (h : reps w (State.c t s) us) (hz : W.Sm) :
    Calls Tryz.prog 49 #[.agg vs.toArray, .agg us.toArray, .string q] w (StG (doC W s q) w) := (sDo_calls W s q w hW h hz).mono (fun _ _ h => h)
theorem Do_gives {tN tS tC t : Nat} (W : Web) (s : State) (q : ByteArray) (w : World) {vs us : List Value} (hW : reps w (W.c tN tS tC) vs) (h : reps w (State.c t s) us) (hz : W.Sm) (hgl : 3 < w.heap.size) (hgt : w.cell? ⟨3, 15, none⟩ = some (.int .u8 4)) :
    Calls Tryz.prog 50 #[.agg vs.toArray, .agg us.toArray, .string q] w (StG (doC W s q) w) := (Do_calls W s q w hW h hz hgl hgt).mono (fun _ _ h => h)
theorem sum_const {α : Type} (n : Nat) (xs : List α) : (xs.map (fun _ => n)).sum = n * xs.length := by
  induction xs with
  | nil => rfl
  | cons x xs ih => rw [List.map_cons, List.sum_cons, ih, List.length_cons, Nat.mul_succ]; omega
theorem doC_cnt (t : Nat) (W : Web) (s : State) (q : ByteArray) : cntl ((doC W s q).c t) ≤ 100000 := by
  cases h : validS W s with
  | false => rw [doC_no h]; show cnt (strsT 9 []) + (cnt (RunsT t []) + 0) ≤ _; simp [cnt, strsT, RunsT, tl, cnts]
  | true =>
    obtain ⟨hw, hro, hR⟩ := validS_reach h
    rw [doC_yes h]
    have hI := (doT_reach (q := q) hR).inv hw
    have h0 := rootsOk_le hro
    have h1 := strs_cnt_len 9 (doT W s q).Roots
    have h2 := runs_cnt t (fun _ => 100) (doT W s q).Runs (fun y hy => by have h1 := (hI.ok y hy).many; have h2 := (hI.ok y hy).vis1; omega)
    have h3 := inv_len hw hI
    rw [sum_const] at h2
    rw [doT_roots] at h1
    have e : cntl ((doT W s q).c t) = cnt (strsT 9 (doT W s q).Roots) + (cnt (RunsT t (doT W s q).Runs) + 0) := rfl
    rw [e, doT_roots, h1]
    omega
end Go.Proofs.YtkpkfihaihoaeaaGreatDoor.M
end
section
set_option linter.unusedVariables false
set_option linter.unusedSimpArgs false
namespace Go.Proofs.YtkpkfihaihoaeaaGreatDoor.M
open Go.RowKit

set_option maxRecDepth 100000 in
set_option maxHeartbeats 4000000 in
theorem FnExactDo_calls {tNode0 tStep0 tCase0 tRun1 : Nat} (x0 : Web) (x1 : State) (x2 : ByteArray) (w : World) {vs0 : List Value} (h0 : reps w (x0.c tNode0 tStep0 tCase0) vs0) (hz0 : x0.Zm) {vs1 : List Value} (h1 : reps w (x1.c tRun1) vs1) (hz1 : x1.Zm) (hz2 : x2.size ≤ 9223372036854775807) (hg : 3 < w.heap.size) (ht : w.cell? ⟨3, 15, none⟩ = some (.int .u8 4)) :
    Calls Tryz.prog 9 #[.agg vs0.toArray, .agg vs1.toArray, .string x2] w fun e w' => e = .returned (.bool true) ∧ Below w.heap.size w w' := by
  have H0 := Asd.mk h0
  obtain ⟨u0_0, rfl, g0_0⟩ := Web.ropen h0
  obtain ⟨A0_0, C0_0, rfl, _, _⟩ := rep_len g0_0
  clear g0_0
  clear h0
  replace hz0 := Asd.mk hz0
  have H1 := Asd.mk h1
  obtain ⟨u1_0, u1_1, rfl, g1_0, g1_1⟩ := State.ropen h1
  obtain ⟨A1_0, C1_0, rfl, _, _⟩ := rep_len g1_0
  clear g1_0
  obtain ⟨A1_1, C1_1, rfl, _, _⟩ := rep_len g1_1
  clear g1_1
  clear h1
  replace hz1 := Asd.mk hz1
  replace hz2 := Asd.mk hz2
  by_cases qs2 : ((x2.size : Nat) : Int) ≤ 1048576
  rotate_left
  · replace qs2 : (1048576 : Int) < (x2.size : Nat) := by omega
    have hs2 := hz2.out
    go_enter Tryz.func9, Tryz.ntmps9
    go_wp2
    go_ret
    exact ⟨rfl, below_al (below_al (Below.refl _ _) _) _⟩
  have hs2 := hz2.out
  have qn2 : ¬(1048576 : Int) < (x2.size : Nat) := by omega
  by_cases q0 : ((x0.bk : Nat) : Int) ≤ 1048576
  rotate_left
  · have e0 : szI (x0.bk) (1048576) = -1 := szI_no q0
    go_enter Tryz.func9, Tryz.ntmps9
    go_wp2_with fail
    refine (szWeb_calls x0 _ _ (H0.out.below (below_al (below_al (Below.refl _ _) _) _)) (by omega) (by omega) hz0.out).mono ?_
    rintro e w1 ⟨rfl, hb⟩
    have hF := Far.of_below hb
    have zs1 : w.heap.size + 1 + 1 ≤ w1.heap.size := by have := hF.size; (try simp at this); omega
    have c0_0 : w1.cell? ⟨w.heap.size, 0, none⟩ = some (.slice A0_0 x0.Nodes.length C0_0) := by rw [hF.cell (by first | (simp; done) | (simp; omega) | omega) (by omega)]; first | exact c0_0 | go_simp
    have c1_0 : w1.cell? ⟨w.heap.size + 1, 0, none⟩ = some (.slice A1_0 x1.Roots.length C1_0) := by rw [hF.cell (by first | (simp; done) | (simp; omega) | omega) (by omega)]; first | exact c1_0 | go_simp
    have c1_1 : w1.cell? ⟨w.heap.size + 1, 1, none⟩ = some (.slice A1_1 x1.Runs.length C1_1) := by rw [hF.cell (by first | (simp; done) | (simp; omega) | omega) (by omega)]; first | exact c1_1 | go_simp
    have z0 : w.heap.size < w1.heap.size := by omega
    have z1 : w.heap.size + 1 < w1.heap.size := by omega
    have HB_1 := Asd.mk (Far.trans3 (below_al (below_al (Below.refl _ _) _) _) hF (by omega))
    clear hF hb
    go_wp2
    go_ret
    exact ⟨rfl, HB_1.out⟩
  have e0 : szI (x0.bk) (1048576) = 1048576 - (x0.bk : Nat) := szI_yes q0
  by_cases q1 : ((x1.bk : Nat) : Int) ≤ 1048576 - (x0.bk : Nat)
  rotate_left
  · have e1 : szI (x1.bk) (1048576 - (x0.bk : Nat)) = -1 := szI_no q1
    go_enter Tryz.func9, Tryz.ntmps9
    go_wp2_with fail
    refine (szWeb_calls x0 _ _ (H0.out.below (below_al (below_al (Below.refl _ _) _) _)) (by omega) (by omega) hz0.out).mono ?_
    rintro e w1 ⟨rfl, hb⟩
    have hF := Far.of_below hb
    have zs1 : w.heap.size + 1 + 1 ≤ w1.heap.size := by have := hF.size; (try simp at this); omega
    have c0_0 : w1.cell? ⟨w.heap.size, 0, none⟩ = some (.slice A0_0 x0.Nodes.length C0_0) := by rw [hF.cell (by first | (simp; done) | (simp; omega) | omega) (by omega)]; first | exact c0_0 | go_simp
    have c1_0 : w1.cell? ⟨w.heap.size + 1, 0, none⟩ = some (.slice A1_0 x1.Roots.length C1_0) := by rw [hF.cell (by first | (simp; done) | (simp; omega) | omega) (by omega)]; first | exact c1_0 | go_simp
    have c1_1 : w1.cell? ⟨w.heap.size + 1, 1, none⟩ = some (.slice A1_1 x1.Runs.length C1_1) := by rw [hF.cell (by first | (simp; done) | (simp; omega) | omega) (by omega)]; first | exact c1_1 | go_simp
    have z0 : w.heap.size < w1.heap.size := by omega
    have z1 : w.heap.size + 1 < w1.heap.size := by omega
    have HB_1 := Asd.mk (Far.trans3 (below_al (below_al (Below.refl _ _) _) _) hF (by omega))
    clear hF hb
    go_wp2_with fail
    refine (szState_calls x1 _ _ (H1.out.below (HB_1.out)) (by omega) (by omega) hz1.out).mono ?_
    rintro e w2 ⟨rfl, hb⟩
    have hF := Far.of_below hb
    have zs2 : w1.heap.size ≤ w2.heap.size := by have := hF.size; (try simp at this); omega
    replace c0_0 : w2.cell? ⟨w.heap.size, 0, none⟩ = some (.slice A0_0 x0.Nodes.length C0_0) := by rw [hF.cell (by first | (simp; done) | (simp; omega) | omega) (by omega)]; first | exact c0_0 | go_simp
    replace c1_0 : w2.cell? ⟨w.heap.size + 1, 0, none⟩ = some (.slice A1_0 x1.Roots.length C1_0) := by rw [hF.cell (by first | (simp; done) | (simp; omega) | omega) (by omega)]; first | exact c1_0 | go_simp
    replace c1_1 : w2.cell? ⟨w.heap.size + 1, 1, none⟩ = some (.slice A1_1 x1.Runs.length C1_1) := by rw [hF.cell (by first | (simp; done) | (simp; omega) | omega) (by omega)]; first | exact c1_1 | go_simp
    replace z0 : w.heap.size < w2.heap.size := by omega
    replace z1 : w.heap.size + 1 < w2.heap.size := by omega
    have HB_2 := Asd.mk (Far.trans3 (HB_1.out) hF (by omega))
    clear hF hb
    go_wp2
    go_ret
    exact ⟨rfl, HB_2.out⟩
  have e1 : szI (x1.bk) (1048576 - (x0.bk : Nat)) = 1048576 - (x0.bk : Nat) - (x1.bk : Nat) := szI_yes q1
  obtain ⟨g, gx⟩ : ∃ g, doC x0 x1 x2 = g := ⟨_, rfl⟩
  obtain ⟨KA0, ka0⟩ : ∃ K, 1 + cntl (x0.c 113 121 213) = K := ⟨_, rfl⟩
  have la0 : 1 ≤ KA0 := by omega
  obtain ⟨KA1, ka1⟩ : ∃ K, KA0 + cntl (x1.c 84) = K := ⟨_, rfl⟩
  have la1 : KA0 ≤ KA1 := by omega
  obtain ⟨KG0, kg0⟩ : ∃ K, 1 + cntl (g.c 84) = K := ⟨_, rfl⟩
  have lg0 : 1 ≤ KG0 := by omega
  have hc_ : cntl (x0.c 113 121 213) ≤ 6 * x0.bk := Web.cnt_le x0
  have hc2_ : cntl (x1.c 84) ≤ 6 * x1.bk := State.cnt_le _ x1
  have hg_ : cntl (g.c 84) ≤ 100000 := by rw [← gx]; exact doC_cnt _ x0 x1 x2
  have hKA : KA1 ≤ 1000000000 := by omega
  have hKG : KG0 ≤ 1000000000 := by omega
  replace ka0 := Asd.mk ka0
  replace ka1 := Asd.mk ka1
  replace kg0 := Asd.mk kg0
  clear hc_
  go_enter Tryz.func9, Tryz.ntmps9
  go_wp2_with fail
  refine (szWeb_calls x0 _ _ (H0.out.below (below_al (below_al (Below.refl _ _) _) _)) (by omega) (by omega) hz0.out).mono ?_
  rintro e w1 ⟨rfl, hb⟩
  have hF := Far.of_below hb
  have zs1 : w.heap.size + 1 + 1 ≤ w1.heap.size := by have := hF.size; (try simp at this); omega
  have c0_0 : w1.cell? ⟨w.heap.size, 0, none⟩ = some (.slice A0_0 x0.Nodes.length C0_0) := by rw [hF.cell (by first | (simp; done) | (simp; omega) | omega) (by omega)]; first | exact c0_0 | go_simp
  have c1_0 : w1.cell? ⟨w.heap.size + 1, 0, none⟩ = some (.slice A1_0 x1.Roots.length C1_0) := by rw [hF.cell (by first | (simp; done) | (simp; omega) | omega) (by omega)]; first | exact c1_0 | go_simp
  have c1_1 : w1.cell? ⟨w.heap.size + 1, 1, none⟩ = some (.slice A1_1 x1.Runs.length C1_1) := by rw [hF.cell (by first | (simp; done) | (simp; omega) | omega) (by omega)]; first | exact c1_1 | go_simp
  have z0 : w.heap.size < w1.heap.size := by omega
  have z1 : w.heap.size + 1 < w1.heap.size := by omega
  have HB_1 := Asd.mk (Far.trans3 (below_al (below_al (Below.refl _ _) _) _) hF (by omega))
  clear hF hb
  go_wp2_with fail
  refine (szState_calls x1 _ _ (H1.out.below (HB_1.out)) (by omega) (by omega) hz1.out).mono ?_
  rintro e w2 ⟨rfl, hb⟩
  have hF := Far.of_below hb
  have zs2 : w1.heap.size ≤ w2.heap.size := by have := hF.size; (try simp at this); omega
  replace c0_0 : w2.cell? ⟨w.heap.size, 0, none⟩ = some (.slice A0_0 x0.Nodes.length C0_0) := by rw [hF.cell (by first | (simp; done) | (simp; omega) | omega) (by omega)]; first | exact c0_0 | go_simp
  replace c1_0 : w2.cell? ⟨w.heap.size + 1, 0, none⟩ = some (.slice A1_0 x1.Roots.length C1_0) := by rw [hF.cell (by first | (simp; done) | (simp; omega) | omega) (by omega)]; first | exact c1_0 | go_simp
  replace c1_1 : w2.cell? ⟨w.heap.size + 1, 1, none⟩ = some (.slice A1_1 x1.Runs.length C1_1) := by rw [hF.cell (by first | (simp; done) | (simp; omega) | omega) (by omega)]; first | exact c1_1 | go_simp
  replace z0 : w.heap.size < w2.heap.size := by omega
  replace z1 : w.heap.size + 1 < w2.heap.size := by omega
  have HB_2 := Asd.mk (Far.trans3 (HB_1.out) hF (by omega))
  clear hF hb
  have hkeep := Asd.mk (show ∀ W, Below w2.heap.size w2 W → (Below w2.heap.size w2 W ∧ W.cell? ⟨w.heap.size, 0, none⟩ = some (.slice A0_0 x0.Nodes.length C0_0) ∧ W.cell? ⟨w.heap.size + 1, 0, none⟩ = some (.slice A1_0 x1.Roots.length C1_0) ∧ W.cell? ⟨w.heap.size + 1, 1, none⟩ = some (.slice A1_1 x1.Runs.length C1_1)) from fun W hb => ⟨hb, cell_below hb c0_0, cell_below hb c1_0, cell_below hb c1_1⟩)
  have s_0 : Below w2.heap.size w2 w2.drew := (Below.refl _ _).drew
  go_wp2
  go_cut [8] (fun s8_ X => ∃ (b_w0 : Nat) (Aw0_0 : Option Addr) (Aw0_1 : Option Addr) (Cw0_0 : Nat) (Cw0_1 : Nat), s8_ = .pointer (some ⟨b_w0, 0, none⟩) ∧ (w2.heap.size ≤ b_w0 ∧ b_w0 < X.heap.size) ∧ X.cell? ⟨b_w0, 0, none⟩ = some (.slice Aw0_0 g.Roots.length Cw0_0) ∧ X.cell? ⟨b_w0, 1, none⟩ = some (.slice Aw0_1 g.Runs.length Cw0_1) ∧ Iv 0 X.heap.size X (g.c 84) [.slice Aw0_0 g.Roots.length Cw0_0, .slice Aw0_1 g.Runs.length Cw0_1] ∧ Below w2.heap.size w2 X)
  case first =>
    go_region_held3 (fun W => Below w2.heap.size w2 W ∧ W.cell? ⟨w.heap.size, 0, none⟩ = some (.slice A0_0 x0.Nodes.length C0_0) ∧ W.cell? ⟨w.heap.size + 1, 0, none⟩ = some (.slice A1_0 x1.Roots.length C1_0) ∧ W.cell? ⟨w.heap.size + 1, 1, none⟩ = some (.slice A1_1 x1.Runs.length C1_1)) ((refine hkeep.out _ ?_; (repeat (first | (with_reducible exact Below.refl _ _) | (with_reducible exact s_0) | (with_reducible refine below_al ?_ _) | (with_reducible refine below_dr ?_ _) | (with_reducible refine below_d1 ?_) | ((with_reducible refine Below.setCell ?_ ?_ _); rotate_left; (next => first | (simp; done) | (simp; omega) | omega))))))
      (first | (go_at_call 18; refine (toWeb_calls x0 _ (H0.out.below (below_st (HB_2.out) (show Below w2.heap.size w2 _ from by repeat (first | (with_reducible exact Below.refl _ _) | (with_reducible exact s_0) | (with_reducible refine below_al ?_ _) | (with_reducible refine below_dr ?_ _) | (with_reducible refine below_d1 ?_) | ((with_reducible refine Below.setCell ?_ ?_ _); rotate_left; (next => first | (simp; done) | (simp; omega) | omega)))))) (by omega)).mono ?_; rintro e W0 ⟨us, rfl, ⟨F_, o_, n_, l_⟩, hb⟩; obtain ⟨v_0, G_0, rfl, p_0, rfl⟩ := Web.oopen o_; obtain ⟨D0_0, d0_0, rfl, _, _⟩ := own_slice p_0; have r_s0 := Asd.mk o_.rep; obtain ⟨s_0, s_1, s_2, s_3⟩ := hkeep.out _ (below_st (show Below w2.heap.size w2 _ from by repeat (first | (with_reducible exact Below.refl _ _) | (with_reducible exact s_0) | (with_reducible refine below_al ?_ _) | (with_reducible refine below_dr ?_ _) | (with_reducible refine below_d1 ?_) | ((with_reducible refine Below.setCell ?_ ?_ _); rotate_left; (next => first | (simp; done) | (simp; omega) | omega)))) hb); obtain ⟨hcx_W0, hfx_W0⟩ := bcell hb; (try have yw2_W0 := (show w2.heap.size < W0.heap.size by have := hb.size; (try simp at this); omega)); have x_W0 := s_0.size; clear hb o_ l_ n_ p_0) | (go_at_call 19; refine (toState_calls x1 _ (H1.out.below (below_st (HB_2.out) (show Below w2.heap.size w2 _ from by repeat (first | (with_reducible exact Below.refl _ _) | (with_reducible exact s_0) | (with_reducible refine below_al ?_ _) | (with_reducible refine below_dr ?_ _) | (with_reducible refine below_d1 ?_) | ((with_reducible refine Below.setCell ?_ ?_ _); rotate_left; (next => first | (simp; done) | (simp; omega) | omega)))))) (by omega)).mono ?_; rintro e W1 ⟨us, rfl, ⟨F_, o_, n_, l_⟩, hb⟩; obtain ⟨v_0, G_0, v_1, G_1, rfl, p_0, p_1, rfl⟩ := State.oopen o_; obtain ⟨D1_0, d1_0, rfl, _, _⟩ := own_slice p_0; obtain ⟨D1_1, d1_1, rfl, _, _⟩ := own_slice p_1; have r_s1 := Asd.mk o_.rep; replace r_s0 := Asd.mk (r_s0.out.below (below_st (by repeat (first | (with_reducible exact Below.refl _ _) | (with_reducible exact Below.refl _ _) | (with_reducible refine below_al ?_ _) | (with_reducible refine below_dr ?_ _) | (with_reducible refine below_d1 ?_) | ((with_reducible refine Below.setCell ?_ ?_ _); rotate_left; (next => first | (simp; done) | (simp; omega) | omega)))) hb)); obtain ⟨s_0, s_1, s_2, s_3⟩ := hkeep.out _ (below_st (show Below w2.heap.size w2 _ from by repeat (first | (with_reducible exact Below.refl _ _) | (with_reducible exact s_0) | (with_reducible refine below_al ?_ _) | (with_reducible refine below_dr ?_ _) | (with_reducible refine below_d1 ?_) | ((with_reducible refine Below.setCell ?_ ?_ _); rotate_left; (next => first | (simp; done) | (simp; omega) | omega)))) hb); obtain ⟨hcx_W1, hfx_W1⟩ := bcell hb; (try have yw2_W1 := (show w2.heap.size < W1.heap.size by have := hb.size; (try simp at this); omega)); (try have yW0_W1 := (show W0.heap.size < W1.heap.size by have := hb.size; (try simp at this); omega)); have x_W1 := s_0.size; clear hb o_ l_ n_ p_0 p_1) | (go_at_call 49; refine (sDo_gives x0 x1 x2 _ (r_s0.out.below (by repeat (first | (with_reducible exact Below.refl _ _) | (with_reducible exact Below.refl _ _) | (with_reducible refine below_al ?_ _) | (with_reducible refine below_dr ?_ _) | (with_reducible refine below_d1 ?_) | ((with_reducible refine Below.setCell ?_ ?_ _); rotate_left; (next => first | (simp; done) | (simp; omega) | omega))))) (r_s1.out.below (by repeat (first | (with_reducible exact Below.refl _ _) | (with_reducible exact Below.refl _ _) | (with_reducible refine below_al ?_ _) | (with_reducible refine below_dr ?_ _) | (with_reducible refine below_d1 ?_) | ((with_reducible refine Below.setCell ?_ ?_ _); rotate_left; (next => first | (simp; done) | (simp; omega) | omega))))) (Web.zsm hz0.out)).mono ?_; rw [gx]; rintro e w3 ⟨v0_, v1_, rfl, hM, hb⟩; have I_w0 : Asd (Iv _ w3.heap.size w3 (g.c 84) _) := Asd.mk ((Iv.of_mades hM).mono (Nat.le_refl _) (Nat.le_refl _)); obtain ⟨F_, o_, _, _⟩ := hM; obtain ⟨_, _, _, _, he_, p_0, p_1, _⟩ := State.oopen o_; obtain ⟨Aw0_0, Cw0_0, rfl, _, _⟩ := own_slice p_0; obtain ⟨Aw0_1, Cw0_1, rfl, _, _⟩ := own_slice p_1; cases he_; clear o_ p_0 p_1; obtain ⟨s_0, s_1, s_2, s_3⟩ := hkeep.out _ (below_st (show Below w2.heap.size w2 _ from by repeat (first | (with_reducible exact Below.refl _ _) | (with_reducible exact s_0) | (with_reducible refine below_al ?_ _) | (with_reducible refine below_dr ?_ _) | (with_reducible refine below_d1 ?_) | ((with_reducible refine Below.setCell ?_ ?_ _); rotate_left; (next => first | (simp; done) | (simp; omega) | omega)))) hb); obtain ⟨hcx_w3, hfx_w3⟩ := bcell hb; (try have yw2_w3 := (show w2.heap.size < w3.heap.size by have := hb.size; (try simp at this); omega)); (try have yW0_w3 := (show W0.heap.size < w3.heap.size by have := hb.size; (try simp at this); omega)); (try have yW1_w3 := (show W1.heap.size < w3.heap.size by have := hb.size; (try simp at this); omega)); have x_w3 := s_0.size; clear hb))
    all_goals
      (go_wp2_with fail; go_meet; refine ⟨_, Aw0_0, Aw0_1, Cw0_0, Cw0_1, rfl, (by constructor <;> (first | (simp; done) | (simp; omega) | omega)), (by go_simp), (by go_simp), (by first | exact (I_w0.out.set (by first | (simp; done) | (simp; omega) | omega) _).mono (Nat.zero_le _) (by simp) | exact ((I_w0.out.set (by first | (simp; done) | (simp; omega) | omega) _).set (by first | (simp; done) | (simp; omega) | omega) _).mono (Nat.zero_le _) (by simp) | exact (I_w0.out.below (by repeat (first | (with_reducible exact Below.refl _ _) | (with_reducible exact Below.refl _ _) | (with_reducible refine below_al ?_ _) | (with_reducible refine below_dr ?_ _) | (with_reducible refine below_d1 ?_) | ((with_reducible refine Below.setCell ?_ ?_ _); rotate_left; (next => first | (simp; done) | (simp; omega) | omega))))).mono (Nat.zero_le _) (by simp)), ?_⟩; (repeat (first | (with_reducible exact Below.refl _ _) | (with_reducible exact s_0) | (with_reducible refine below_al ?_ _) | (with_reducible refine below_dr ?_ _) | (with_reducible refine below_d1 ?_) | ((with_reducible refine Below.setCell ?_ ?_ _); rotate_left; (next => first | (simp; done) | (simp; omega) | omega)))))
  case rest =>
    clear s_0
    obtain ⟨b_w0, Aw0_0, Aw0_1, Cw0_0, Cw0_1, rfl, ⟨zb0_w0, zb_w0⟩, ccw0_0, ccw0_1, I_w0, s_0⟩ := hcut
    obtain ⟨w3, rfl⟩ : ∃ X, X = wc := ⟨_, rfl⟩
    have hF : Far 0 0 w2 w3 := Far.of_below s_0
    clear hkeep s_0
    have zs3 : w2.heap.size ≤ w3.heap.size := by have := hF.size; (try simp at this); omega
    replace c0_0 : w3.cell? ⟨w.heap.size, 0, none⟩ = some (.slice A0_0 x0.Nodes.length C0_0) := by rw [hF.cell (by first | (simp; done) | (simp; omega) | omega) (by omega)]; first | exact c0_0 | go_simp
    replace c1_0 : w3.cell? ⟨w.heap.size + 1, 0, none⟩ = some (.slice A1_0 x1.Roots.length C1_0) := by rw [hF.cell (by first | (simp; done) | (simp; omega) | omega) (by omega)]; first | exact c1_0 | go_simp
    replace c1_1 : w3.cell? ⟨w.heap.size + 1, 1, none⟩ = some (.slice A1_1 x1.Runs.length C1_1) := by rw [hF.cell (by first | (simp; done) | (simp; omega) | omega) (by omega)]; first | exact c1_1 | go_simp
    replace z0 : w.heap.size < w3.heap.size := by omega
    replace z1 : w.heap.size + 1 < w3.heap.size := by omega
    have HB_3 := Asd.mk (Far.trans3 (HB_2.out) hF (by omega))
    clear hF
    replace I_w0 := Asd.mk I_w0
    have c2_0 := ccw0_0
    have c2_1 := ccw0_1
    have z2 : b_w0 < w3.heap.size := zb_w0
    clear ccw0_0 ccw0_1
    go_wp2_with fail
    refine (toWeb_calls x0 _ (H0.out.below (HB_3.out)) (by omega)).mono ?_
    rintro e w4 ⟨us, rfl, hM, hb⟩
    have hF := Far.of_below hb
    have I_i0 : Asd (Iv (w3.heap.size) w4.heap.size w4 (x0.c 113 121 213) us) := Asd.mk ((Iv.of_mades hM).mono (by simp) (Nat.le_refl _))
    obtain ⟨F_, o_, _, _⟩ := hM
    obtain ⟨v_0, G_0, rfl, p_0, rfl⟩ := Web.oopen o_
    obtain ⟨Ai0_0, Ci0_0, rfl, _, _⟩ := own_slice p_0
    clear o_ p_0
    have zs4 : w3.heap.size ≤ w4.heap.size := by have := hF.size; (try simp at this); omega
    replace c0_0 : w4.cell? ⟨w.heap.size, 0, none⟩ = some (.slice A0_0 x0.Nodes.length C0_0) := by rw [hF.cell (by first | (simp; done) | (simp; omega) | omega) (by omega)]; first | exact c0_0 | go_simp
    replace c1_0 : w4.cell? ⟨w.heap.size + 1, 0, none⟩ = some (.slice A1_0 x1.Roots.length C1_0) := by rw [hF.cell (by first | (simp; done) | (simp; omega) | omega) (by omega)]; first | exact c1_0 | go_simp
    replace c1_1 : w4.cell? ⟨w.heap.size + 1, 1, none⟩ = some (.slice A1_1 x1.Runs.length C1_1) := by rw [hF.cell (by first | (simp; done) | (simp; omega) | omega) (by omega)]; first | exact c1_1 | go_simp
    replace c2_0 : w4.cell? ⟨b_w0, 0, none⟩ = some (.slice Aw0_0 g.Roots.length Cw0_0) := by rw [hF.cell (by first | (simp; done) | (simp; omega) | omega) (by omega)]; first | exact c2_0 | go_simp
    replace c2_1 : w4.cell? ⟨b_w0, 1, none⟩ = some (.slice Aw0_1 g.Runs.length Cw0_1) := by rw [hF.cell (by first | (simp; done) | (simp; omega) | omega) (by omega)]; first | exact c2_1 | go_simp
    replace z0 : w.heap.size < w4.heap.size := by omega
    replace z1 : w.heap.size + 1 < w4.heap.size := by omega
    replace z2 : b_w0 < w4.heap.size := by omega
    have HB_4 := Asd.mk (Far.trans3 (HB_3.out) hF (by omega))
    replace I_w0 := Asd.mk ((I_w0.out.below (Below.refl _ _)).far hF (by omega))
    clear hF hb
    go_wp2_with fail
    refine (toState_calls x1 _ (H1.out.below (below_al (HB_4.out) _)) (by omega)).mono ?_
    rintro e w5 ⟨us, rfl, hM, hb⟩
    have hF := Far.of_below hb
    have I_i1 : Asd (Iv (w4.heap.size + 1) w5.heap.size w5 (x1.c 84) us) := Asd.mk ((Iv.of_mades hM).mono (by simp) (Nat.le_refl _))
    obtain ⟨F_, o_, _, _⟩ := hM
    obtain ⟨v_0, G_0, v_1, G_1, rfl, p_0, p_1, rfl⟩ := State.oopen o_
    obtain ⟨Ai1_0, Ci1_0, rfl, _, _⟩ := own_slice p_0
    obtain ⟨Ai1_1, Ci1_1, rfl, _, _⟩ := own_slice p_1
    clear o_ p_0 p_1
    have zs5 : w4.heap.size + 1 ≤ w5.heap.size := by have := hF.size; (try simp at this); omega
    replace c0_0 : w5.cell? ⟨w.heap.size, 0, none⟩ = some (.slice A0_0 x0.Nodes.length C0_0) := by rw [hF.cell (by first | (simp; done) | (simp; omega) | omega) (by omega)]; first | exact c0_0 | go_simp
    replace c1_0 : w5.cell? ⟨w.heap.size + 1, 0, none⟩ = some (.slice A1_0 x1.Roots.length C1_0) := by rw [hF.cell (by first | (simp; done) | (simp; omega) | omega) (by omega)]; first | exact c1_0 | go_simp
    replace c1_1 : w5.cell? ⟨w.heap.size + 1, 1, none⟩ = some (.slice A1_1 x1.Runs.length C1_1) := by rw [hF.cell (by first | (simp; done) | (simp; omega) | omega) (by omega)]; first | exact c1_1 | go_simp
    replace c2_0 : w5.cell? ⟨b_w0, 0, none⟩ = some (.slice Aw0_0 g.Roots.length Cw0_0) := by rw [hF.cell (by first | (simp; done) | (simp; omega) | omega) (by omega)]; first | exact c2_0 | go_simp
    replace c2_1 : w5.cell? ⟨b_w0, 1, none⟩ = some (.slice Aw0_1 g.Runs.length Cw0_1) := by rw [hF.cell (by first | (simp; done) | (simp; omega) | omega) (by omega)]; first | exact c2_1 | go_simp
    have c3_0 : w5.cell? ⟨w4.heap.size, 0, none⟩ = some (.slice Ai0_0 x0.Nodes.length Ci0_0) := by rw [hF.cell (by first | (simp; done) | (simp; omega) | omega) (by omega)]; first | exact c3_0 | go_simp
    replace z0 : w.heap.size < w5.heap.size := by omega
    replace z1 : w.heap.size + 1 < w5.heap.size := by omega
    replace z2 : b_w0 < w5.heap.size := by omega
    have z3 : w4.heap.size < w5.heap.size := by omega
    have HB_5 := Asd.mk (Far.trans3 (below_al (HB_4.out) _) hF (by omega))
    replace I_w0 := Asd.mk ((I_w0.out.below (below_al (Below.refl _ _) _)).far hF (by omega))
    replace I_i0 := Asd.mk ((I_i0.out.below (below_al (Below.refl _ _) _)).far hF (by omega))
    clear hF hb
    go_wp2_with fail
    refine (Do_gives x0 x1 x2 _ (I_i0.out.reps.below (below_al (Below.refl _ _) _)) (I_i1.out.reps.below (below_al (Below.refl _ _) _)) (Web.zsm hz0.out) (Nat.lt_of_lt_of_le hg (below_al (HB_5.out) _).size) (cell_below (below_al (HB_5.out) _) ht)).mono ?_
    rw [gx]
    rintro e w6 ⟨v0_, v1_, rfl, hM, hb⟩
    have hF := Far.of_below hb
    have I_g0 : Asd (Iv (w5.heap.size + 1) w6.heap.size w6 (g.c 84) _) := Asd.mk ((Iv.of_mades hM).mono (by simp) (Nat.le_refl _))
    obtain ⟨F_, o_, _, _⟩ := hM
    obtain ⟨_, _, _, _, he_, p_0, p_1, _⟩ := State.oopen o_
    obtain ⟨Ag0_0, Cg0_0, rfl, _, _⟩ := own_slice p_0
    obtain ⟨Ag0_1, Cg0_1, rfl, _, _⟩ := own_slice p_1
    cases he_
    clear o_ p_0 p_1
    have zs6 : w5.heap.size + 1 ≤ w6.heap.size := by have := hF.size; (try simp at this); omega
    replace c0_0 : w6.cell? ⟨w.heap.size, 0, none⟩ = some (.slice A0_0 x0.Nodes.length C0_0) := by rw [hF.cell (by first | (simp; done) | (simp; omega) | omega) (by omega)]; first | exact c0_0 | go_simp
    replace c1_0 : w6.cell? ⟨w.heap.size + 1, 0, none⟩ = some (.slice A1_0 x1.Roots.length C1_0) := by rw [hF.cell (by first | (simp; done) | (simp; omega) | omega) (by omega)]; first | exact c1_0 | go_simp
    replace c1_1 : w6.cell? ⟨w.heap.size + 1, 1, none⟩ = some (.slice A1_1 x1.Runs.length C1_1) := by rw [hF.cell (by first | (simp; done) | (simp; omega) | omega) (by omega)]; first | exact c1_1 | go_simp
    replace c2_0 : w6.cell? ⟨b_w0, 0, none⟩ = some (.slice Aw0_0 g.Roots.length Cw0_0) := by rw [hF.cell (by first | (simp; done) | (simp; omega) | omega) (by omega)]; first | exact c2_0 | go_simp
    replace c2_1 : w6.cell? ⟨b_w0, 1, none⟩ = some (.slice Aw0_1 g.Runs.length Cw0_1) := by rw [hF.cell (by first | (simp; done) | (simp; omega) | omega) (by omega)]; first | exact c2_1 | go_simp
    replace c3_0 : w6.cell? ⟨w4.heap.size, 0, none⟩ = some (.slice Ai0_0 x0.Nodes.length Ci0_0) := by rw [hF.cell (by first | (simp; done) | (simp; omega) | omega) (by omega)]; first | exact c3_0 | go_simp
    have c4_0 : w6.cell? ⟨w5.heap.size, 0, none⟩ = some (.slice Ai1_0 x1.Roots.length Ci1_0) := by rw [hF.cell (by first | (simp; done) | (simp; omega) | omega) (by omega)]; first | exact c4_0 | go_simp
    have c4_1 : w6.cell? ⟨w5.heap.size, 1, none⟩ = some (.slice Ai1_1 x1.Runs.length Ci1_1) := by rw [hF.cell (by first | (simp; done) | (simp; omega) | omega) (by omega)]; first | exact c4_1 | go_simp
    replace z0 : w.heap.size < w6.heap.size := by omega
    replace z1 : w.heap.size + 1 < w6.heap.size := by omega
    replace z2 : b_w0 < w6.heap.size := by omega
    replace z3 : w4.heap.size < w6.heap.size := by omega
    have z4 : w5.heap.size < w6.heap.size := by omega
    have HB_6 := Asd.mk (Far.trans3 (below_al (HB_5.out) _) hF (by omega))
    replace I_w0 := Asd.mk ((I_w0.out.below (below_al (Below.refl _ _) _)).far hF (by omega))
    replace I_i0 := Asd.mk ((I_i0.out.below (below_al (Below.refl _ _) _)).far hF (by omega))
    replace I_i1 := Asd.mk ((I_i1.out.below (below_al (Below.refl _ _) _)).far hF (by omega))
    clear hF hb
    have y_0 : eqB (g) (g) = true := eqB_yes rfl
    go_wp2_with fail
    refine (eqState_calls (g) (g) _ (I_g0.out.reps.below (below_al (Below.refl _ _) _)) (I_w0.out.reps.below (below_al (Below.refl _ _) _))).mono ?_
    rintro e w7 ⟨rfl, hb⟩
    have hF := Far.of_below hb
    have zs7 : w6.heap.size + 1 ≤ w7.heap.size := by have := hF.size; (try simp at this); omega
    replace c0_0 : w7.cell? ⟨w.heap.size, 0, none⟩ = some (.slice A0_0 x0.Nodes.length C0_0) := by rw [hF.cell (by first | (simp; done) | (simp; omega) | omega) (by omega)]; first | exact c0_0 | go_simp
    replace c1_0 : w7.cell? ⟨w.heap.size + 1, 0, none⟩ = some (.slice A1_0 x1.Roots.length C1_0) := by rw [hF.cell (by first | (simp; done) | (simp; omega) | omega) (by omega)]; first | exact c1_0 | go_simp
    replace c1_1 : w7.cell? ⟨w.heap.size + 1, 1, none⟩ = some (.slice A1_1 x1.Runs.length C1_1) := by rw [hF.cell (by first | (simp; done) | (simp; omega) | omega) (by omega)]; first | exact c1_1 | go_simp
    replace c2_0 : w7.cell? ⟨b_w0, 0, none⟩ = some (.slice Aw0_0 g.Roots.length Cw0_0) := by rw [hF.cell (by first | (simp; done) | (simp; omega) | omega) (by omega)]; first | exact c2_0 | go_simp
    replace c2_1 : w7.cell? ⟨b_w0, 1, none⟩ = some (.slice Aw0_1 g.Runs.length Cw0_1) := by rw [hF.cell (by first | (simp; done) | (simp; omega) | omega) (by omega)]; first | exact c2_1 | go_simp
    replace c3_0 : w7.cell? ⟨w4.heap.size, 0, none⟩ = some (.slice Ai0_0 x0.Nodes.length Ci0_0) := by rw [hF.cell (by first | (simp; done) | (simp; omega) | omega) (by omega)]; first | exact c3_0 | go_simp
    replace c4_0 : w7.cell? ⟨w5.heap.size, 0, none⟩ = some (.slice Ai1_0 x1.Roots.length Ci1_0) := by rw [hF.cell (by first | (simp; done) | (simp; omega) | omega) (by omega)]; first | exact c4_0 | go_simp
    replace c4_1 : w7.cell? ⟨w5.heap.size, 1, none⟩ = some (.slice Ai1_1 x1.Runs.length Ci1_1) := by rw [hF.cell (by first | (simp; done) | (simp; omega) | omega) (by omega)]; first | exact c4_1 | go_simp
    have c5_0 : w7.cell? ⟨w6.heap.size, 0, none⟩ = some (.slice Ag0_0 g.Roots.length Cg0_0) := by rw [hF.cell (by first | (simp; done) | (simp; omega) | omega) (by omega)]; first | exact c5_0 | go_simp
    have c5_1 : w7.cell? ⟨w6.heap.size, 1, none⟩ = some (.slice Ag0_1 g.Runs.length Cg0_1) := by rw [hF.cell (by first | (simp; done) | (simp; omega) | omega) (by omega)]; first | exact c5_1 | go_simp
    replace z0 : w.heap.size < w7.heap.size := by omega
    replace z1 : w.heap.size + 1 < w7.heap.size := by omega
    replace z2 : b_w0 < w7.heap.size := by omega
    replace z3 : w4.heap.size < w7.heap.size := by omega
    replace z4 : w5.heap.size < w7.heap.size := by omega
    have z5 : w6.heap.size < w7.heap.size := by omega
    have HB_7 := Asd.mk (Far.trans3 (below_al (HB_6.out) _) hF (by omega))
    replace I_w0 := Asd.mk ((I_w0.out.below (below_al (Below.refl _ _) _)).far hF (by omega))
    replace I_i0 := Asd.mk ((I_i0.out.below (below_al (Below.refl _ _) _)).far hF (by omega))
    replace I_i1 := Asd.mk ((I_i1.out.below (below_al (Below.refl _ _) _)).far hF (by omega))
    replace I_g0 := Asd.mk ((I_g0.out.below (below_al (Below.refl _ _) _)).far hF (by omega))
    clear hF hb
    have yx_0 : eqB x0 x0 = true := eqB_yes rfl
    have hkeep : ∀ W W', Below W.heap.size W W' → (Below w7.heap.size w7 W ∧ W.cell? ⟨w.heap.size, 0, none⟩ = some (.slice A0_0 x0.Nodes.length C0_0) ∧ W.cell? ⟨w4.heap.size, 0, none⟩ = some (.slice Ai0_0 x0.Nodes.length Ci0_0)) → (Below w7.heap.size w7 W' ∧ W'.cell? ⟨w.heap.size, 0, none⟩ = some (.slice A0_0 x0.Nodes.length C0_0) ∧ W'.cell? ⟨w4.heap.size, 0, none⟩ = some (.slice Ai0_0 x0.Nodes.length Ci0_0)) := by
      rintro W W' hb ⟨q_0, q_1, q_2⟩
      exact ⟨below_st q_0 hb, cell_below hb q_1, cell_below hb q_2⟩
    replace hkeep := Asd.mk hkeep
    have hbs : Below w7.heap.size w7 w7.drew := (Below.refl _ _).drew
    go_wp2
    go_region_held3 (fun W => Below w7.heap.size w7 W ∧ W.cell? ⟨w.heap.size, 0, none⟩ = some (.slice A0_0 x0.Nodes.length C0_0) ∧ W.cell? ⟨w4.heap.size, 0, none⟩ = some (.slice Ai0_0 x0.Nodes.length Ci0_0)) (go_keep)
      (first | (go_at_call 18; refine (toWeb_calls x0 _ (H0.out.below (below_st HB_7.out (by assumption))) (by omega)).mono ?_; rintro e W6 ⟨us, rfl, ⟨F_, o_, n_, l_⟩, hb⟩; obtain ⟨v_0, G_0, rfl, p_0, rfl⟩ := Web.oopen o_; obtain ⟨D_0, d_0, rfl, _, _⟩ := own_slice p_0; have r6 := Asd.mk o_.rep; obtain ⟨s_0, s_1, s_2⟩ := hkeep.out _ _ hb ⟨by assumption, by first | assumption | exact c0_0, by first | assumption | exact c3_0⟩; clear hb o_ l_ p_0) | (go_at_call 21; refine (eqWeb_calls x0 x0 _ (I_i0.out.reps.below (by assumption)) r6.out).mono ?_; rintro e w8 ⟨rfl, hb⟩; obtain ⟨s_0, s_1, s_2⟩ := hkeep.out _ _ hb ⟨by assumption, by first | assumption | exact c0_0, by first | assumption | exact c3_0⟩; clear hb))
    have hF : Far 0 0 w7 w8 := Far.of_below s_0
    clear hkeep s_0 s_1 s_2 r6 hbs
    have zs8 : w7.heap.size ≤ w8.heap.size := by have := hF.size; (try simp at this); omega
    replace c0_0 : w8.cell? ⟨w.heap.size, 0, none⟩ = some (.slice A0_0 x0.Nodes.length C0_0) := by rw [hF.cell (by first | (simp; done) | (simp; omega) | omega) (by omega)]; first | exact c0_0 | go_simp
    replace c1_0 : w8.cell? ⟨w.heap.size + 1, 0, none⟩ = some (.slice A1_0 x1.Roots.length C1_0) := by rw [hF.cell (by first | (simp; done) | (simp; omega) | omega) (by omega)]; first | exact c1_0 | go_simp
    replace c1_1 : w8.cell? ⟨w.heap.size + 1, 1, none⟩ = some (.slice A1_1 x1.Runs.length C1_1) := by rw [hF.cell (by first | (simp; done) | (simp; omega) | omega) (by omega)]; first | exact c1_1 | go_simp
    replace c2_0 : w8.cell? ⟨b_w0, 0, none⟩ = some (.slice Aw0_0 g.Roots.length Cw0_0) := by rw [hF.cell (by first | (simp; done) | (simp; omega) | omega) (by omega)]; first | exact c2_0 | go_simp
    replace c2_1 : w8.cell? ⟨b_w0, 1, none⟩ = some (.slice Aw0_1 g.Runs.length Cw0_1) := by rw [hF.cell (by first | (simp; done) | (simp; omega) | omega) (by omega)]; first | exact c2_1 | go_simp
    replace c3_0 : w8.cell? ⟨w4.heap.size, 0, none⟩ = some (.slice Ai0_0 x0.Nodes.length Ci0_0) := by rw [hF.cell (by first | (simp; done) | (simp; omega) | omega) (by omega)]; first | exact c3_0 | go_simp
    replace c4_0 : w8.cell? ⟨w5.heap.size, 0, none⟩ = some (.slice Ai1_0 x1.Roots.length Ci1_0) := by rw [hF.cell (by first | (simp; done) | (simp; omega) | omega) (by omega)]; first | exact c4_0 | go_simp
    replace c4_1 : w8.cell? ⟨w5.heap.size, 1, none⟩ = some (.slice Ai1_1 x1.Runs.length Ci1_1) := by rw [hF.cell (by first | (simp; done) | (simp; omega) | omega) (by omega)]; first | exact c4_1 | go_simp
    replace c5_0 : w8.cell? ⟨w6.heap.size, 0, none⟩ = some (.slice Ag0_0 g.Roots.length Cg0_0) := by rw [hF.cell (by first | (simp; done) | (simp; omega) | omega) (by omega)]; first | exact c5_0 | go_simp
    replace c5_1 : w8.cell? ⟨w6.heap.size, 1, none⟩ = some (.slice Ag0_1 g.Runs.length Cg0_1) := by rw [hF.cell (by first | (simp; done) | (simp; omega) | omega) (by omega)]; first | exact c5_1 | go_simp
    replace z0 : w.heap.size < w8.heap.size := by omega
    replace z1 : w.heap.size + 1 < w8.heap.size := by omega
    replace z2 : b_w0 < w8.heap.size := by omega
    replace z3 : w4.heap.size < w8.heap.size := by omega
    replace z4 : w5.heap.size < w8.heap.size := by omega
    replace z5 : w6.heap.size < w8.heap.size := by omega
    have HB_8 := Asd.mk (Far.trans3 (HB_7.out) hF (by omega))
    replace I_w0 := Asd.mk ((I_w0.out.below (Below.refl _ _)).far hF (by omega))
    replace I_i0 := Asd.mk ((I_i0.out.below (Below.refl _ _)).far hF (by omega))
    replace I_i1 := Asd.mk ((I_i1.out.below (Below.refl _ _)).far hF (by omega))
    replace I_g0 := Asd.mk ((I_g0.out.below (Below.refl _ _)).far hF (by omega))
    clear hF
    have yx_1 : eqB x1 x1 = true := eqB_yes rfl
    have hkeep : ∀ W W', Below W.heap.size W W' → (Below w8.heap.size w8 W ∧ W.cell? ⟨w.heap.size + 1, 0, none⟩ = some (.slice A1_0 x1.Roots.length C1_0) ∧ W.cell? ⟨w.heap.size + 1, 1, none⟩ = some (.slice A1_1 x1.Runs.length C1_1) ∧ W.cell? ⟨w5.heap.size, 0, none⟩ = some (.slice Ai1_0 x1.Roots.length Ci1_0) ∧ W.cell? ⟨w5.heap.size, 1, none⟩ = some (.slice Ai1_1 x1.Runs.length Ci1_1)) → (Below w8.heap.size w8 W' ∧ W'.cell? ⟨w.heap.size + 1, 0, none⟩ = some (.slice A1_0 x1.Roots.length C1_0) ∧ W'.cell? ⟨w.heap.size + 1, 1, none⟩ = some (.slice A1_1 x1.Runs.length C1_1) ∧ W'.cell? ⟨w5.heap.size, 0, none⟩ = some (.slice Ai1_0 x1.Roots.length Ci1_0) ∧ W'.cell? ⟨w5.heap.size, 1, none⟩ = some (.slice Ai1_1 x1.Runs.length Ci1_1)) := by
      rintro W W' hb ⟨q_0, q_1, q_2, q_3, q_4⟩
      exact ⟨below_st q_0 hb, cell_below hb q_1, cell_below hb q_2, cell_below hb q_3, cell_below hb q_4⟩
    replace hkeep := Asd.mk hkeep
    have hbs : Below w8.heap.size w8 w8.drew := (Below.refl _ _).drew
    go_wp2
    go_region_held3 (fun W => Below w8.heap.size w8 W ∧ W.cell? ⟨w.heap.size + 1, 0, none⟩ = some (.slice A1_0 x1.Roots.length C1_0) ∧ W.cell? ⟨w.heap.size + 1, 1, none⟩ = some (.slice A1_1 x1.Runs.length C1_1) ∧ W.cell? ⟨w5.heap.size, 0, none⟩ = some (.slice Ai1_0 x1.Roots.length Ci1_0) ∧ W.cell? ⟨w5.heap.size, 1, none⟩ = some (.slice Ai1_1 x1.Runs.length Ci1_1)) (go_keep)
      (first | (go_at_call 19; refine (toState_calls x1 _ (H1.out.below (below_st HB_8.out (by assumption))) (by omega)).mono ?_; rintro e W6 ⟨us, rfl, ⟨F_, o_, n_, l_⟩, hb⟩; obtain ⟨v_0, G_0, v_1, G_1, rfl, p_0, p_1, rfl⟩ := State.oopen o_; obtain ⟨D_0, d_0, rfl, _, _⟩ := own_slice p_0; obtain ⟨D_1, d_1, rfl, _, _⟩ := own_slice p_1; have r6 := Asd.mk o_.rep; obtain ⟨s_0, s_1, s_2, s_3, s_4⟩ := hkeep.out _ _ hb ⟨by assumption, by first | assumption | exact c1_0, by first | assumption | exact c1_1, by first | assumption | exact c4_0, by first | assumption | exact c4_1⟩; clear hb o_ l_ p_0 p_1) | (go_at_call 22; refine (eqState_calls x1 x1 _ (I_i1.out.reps.below (by assumption)) r6.out).mono ?_; rintro e w9 ⟨rfl, hb⟩; obtain ⟨s_0, s_1, s_2, s_3, s_4⟩ := hkeep.out _ _ hb ⟨by assumption, by first | assumption | exact c1_0, by first | assumption | exact c1_1, by first | assumption | exact c4_0, by first | assumption | exact c4_1⟩; clear hb))
    have hF : Far 0 0 w8 w9 := Far.of_below s_0
    clear hkeep s_0 s_1 s_2 s_3 s_4 r6 hbs
    have zs9 : w8.heap.size ≤ w9.heap.size := by have := hF.size; (try simp at this); omega
    replace c0_0 : w9.cell? ⟨w.heap.size, 0, none⟩ = some (.slice A0_0 x0.Nodes.length C0_0) := by rw [hF.cell (by first | (simp; done) | (simp; omega) | omega) (by omega)]; first | exact c0_0 | go_simp
    replace c1_0 : w9.cell? ⟨w.heap.size + 1, 0, none⟩ = some (.slice A1_0 x1.Roots.length C1_0) := by rw [hF.cell (by first | (simp; done) | (simp; omega) | omega) (by omega)]; first | exact c1_0 | go_simp
    replace c1_1 : w9.cell? ⟨w.heap.size + 1, 1, none⟩ = some (.slice A1_1 x1.Runs.length C1_1) := by rw [hF.cell (by first | (simp; done) | (simp; omega) | omega) (by omega)]; first | exact c1_1 | go_simp
    replace c2_0 : w9.cell? ⟨b_w0, 0, none⟩ = some (.slice Aw0_0 g.Roots.length Cw0_0) := by rw [hF.cell (by first | (simp; done) | (simp; omega) | omega) (by omega)]; first | exact c2_0 | go_simp
    replace c2_1 : w9.cell? ⟨b_w0, 1, none⟩ = some (.slice Aw0_1 g.Runs.length Cw0_1) := by rw [hF.cell (by first | (simp; done) | (simp; omega) | omega) (by omega)]; first | exact c2_1 | go_simp
    replace c3_0 : w9.cell? ⟨w4.heap.size, 0, none⟩ = some (.slice Ai0_0 x0.Nodes.length Ci0_0) := by rw [hF.cell (by first | (simp; done) | (simp; omega) | omega) (by omega)]; first | exact c3_0 | go_simp
    replace c4_0 : w9.cell? ⟨w5.heap.size, 0, none⟩ = some (.slice Ai1_0 x1.Roots.length Ci1_0) := by rw [hF.cell (by first | (simp; done) | (simp; omega) | omega) (by omega)]; first | exact c4_0 | go_simp
    replace c4_1 : w9.cell? ⟨w5.heap.size, 1, none⟩ = some (.slice Ai1_1 x1.Runs.length Ci1_1) := by rw [hF.cell (by first | (simp; done) | (simp; omega) | omega) (by omega)]; first | exact c4_1 | go_simp
    replace c5_0 : w9.cell? ⟨w6.heap.size, 0, none⟩ = some (.slice Ag0_0 g.Roots.length Cg0_0) := by rw [hF.cell (by first | (simp; done) | (simp; omega) | omega) (by omega)]; first | exact c5_0 | go_simp
    replace c5_1 : w9.cell? ⟨w6.heap.size, 1, none⟩ = some (.slice Ag0_1 g.Runs.length Cg0_1) := by rw [hF.cell (by first | (simp; done) | (simp; omega) | omega) (by omega)]; first | exact c5_1 | go_simp
    replace z0 : w.heap.size < w9.heap.size := by omega
    replace z1 : w.heap.size + 1 < w9.heap.size := by omega
    replace z2 : b_w0 < w9.heap.size := by omega
    replace z3 : w4.heap.size < w9.heap.size := by omega
    replace z4 : w5.heap.size < w9.heap.size := by omega
    replace z5 : w6.heap.size < w9.heap.size := by omega
    have HB_9 := Asd.mk (Far.trans3 (HB_8.out) hF (by omega))
    replace I_w0 := Asd.mk ((I_w0.out.below (Below.refl _ _)).far hF (by omega))
    replace I_i0 := Asd.mk ((I_i0.out.below (Below.refl _ _)).far hF (by omega))
    replace I_i1 := Asd.mk ((I_i1.out.below (Below.refl _ _)).far hF (by omega))
    replace I_g0 := Asd.mk ((I_g0.out.below (Below.refl _ _)).far hF (by omega))
    clear hF
    go_wp2_with fail
    refine (markWeb_calls (x0) _ _ (1) _ _ (by first | rfl | omega) (I_i0.out.below (Below.refl _ _)) (by omega) (by have := ka0.out; omega)).mono ?_
    rintro e w10 ⟨he, hI, hF⟩
    rw [ka0.out] at he
    subst he
    replace hI := Asd.mk hI
    have zs10 : w9.heap.size ≤ w10.heap.size := by have := hF.size; (try simp at this); omega
    replace c0_0 : w10.cell? ⟨w.heap.size, 0, none⟩ = some (.slice A0_0 x0.Nodes.length C0_0) := by rw [hF.cell (by first | (simp; done) | (simp; omega) | omega) (by omega)]; first | exact c0_0 | go_simp
    replace c1_0 : w10.cell? ⟨w.heap.size + 1, 0, none⟩ = some (.slice A1_0 x1.Roots.length C1_0) := by rw [hF.cell (by first | (simp; done) | (simp; omega) | omega) (by omega)]; first | exact c1_0 | go_simp
    replace c1_1 : w10.cell? ⟨w.heap.size + 1, 1, none⟩ = some (.slice A1_1 x1.Runs.length C1_1) := by rw [hF.cell (by first | (simp; done) | (simp; omega) | omega) (by omega)]; first | exact c1_1 | go_simp
    replace c2_0 : w10.cell? ⟨b_w0, 0, none⟩ = some (.slice Aw0_0 g.Roots.length Cw0_0) := by rw [hF.cell (by first | (simp; done) | (simp; omega) | omega) (by omega)]; first | exact c2_0 | go_simp
    replace c2_1 : w10.cell? ⟨b_w0, 1, none⟩ = some (.slice Aw0_1 g.Runs.length Cw0_1) := by rw [hF.cell (by first | (simp; done) | (simp; omega) | omega) (by omega)]; first | exact c2_1 | go_simp
    replace c3_0 : w10.cell? ⟨w4.heap.size, 0, none⟩ = some (.slice Ai0_0 x0.Nodes.length Ci0_0) := by rw [hF.cell (by first | (simp; done) | (simp; omega) | omega) (by omega)]; first | exact c3_0 | go_simp
    replace c4_0 : w10.cell? ⟨w5.heap.size, 0, none⟩ = some (.slice Ai1_0 x1.Roots.length Ci1_0) := by rw [hF.cell (by first | (simp; done) | (simp; omega) | omega) (by omega)]; first | exact c4_0 | go_simp
    replace c4_1 : w10.cell? ⟨w5.heap.size, 1, none⟩ = some (.slice Ai1_1 x1.Runs.length Ci1_1) := by rw [hF.cell (by first | (simp; done) | (simp; omega) | omega) (by omega)]; first | exact c4_1 | go_simp
    replace c5_0 : w10.cell? ⟨w6.heap.size, 0, none⟩ = some (.slice Ag0_0 g.Roots.length Cg0_0) := by rw [hF.cell (by first | (simp; done) | (simp; omega) | omega) (by omega)]; first | exact c5_0 | go_simp
    replace c5_1 : w10.cell? ⟨w6.heap.size, 1, none⟩ = some (.slice Ag0_1 g.Runs.length Cg0_1) := by rw [hF.cell (by first | (simp; done) | (simp; omega) | omega) (by omega)]; first | exact c5_1 | go_simp
    replace z0 : w.heap.size < w10.heap.size := by omega
    replace z1 : w.heap.size + 1 < w10.heap.size := by omega
    replace z2 : b_w0 < w10.heap.size := by omega
    replace z3 : w4.heap.size < w10.heap.size := by omega
    replace z4 : w5.heap.size < w10.heap.size := by omega
    replace z5 : w6.heap.size < w10.heap.size := by omega
    have HB_10 := Asd.mk (Far.trans3 (HB_9.out) hF (by omega))
    replace I_w0 := Asd.mk ((I_w0.out.below (Below.refl _ _)).far hF (by omega))
    replace I_i1 := Asd.mk ((I_i1.out.below (Below.refl _ _)).far hF (by omega))
    replace I_g0 := Asd.mk ((I_g0.out.below (Below.refl _ _)).far hF (by omega))
    clear hF
    clear I_i0 hI
    go_wp2_with fail
    refine (markState_calls (x1) _ _ (KA0) _ _ (by first | rfl | omega) (I_i1.out.below (Below.refl _ _)) (by omega) (by have := ka1.out; omega)).mono ?_
    rintro e w11 ⟨he, hI, hF⟩
    rw [ka1.out] at he
    subst he
    replace hI := Asd.mk hI
    have zs11 : w10.heap.size ≤ w11.heap.size := by have := hF.size; (try simp at this); omega
    replace c0_0 : w11.cell? ⟨w.heap.size, 0, none⟩ = some (.slice A0_0 x0.Nodes.length C0_0) := by rw [hF.cell (by first | (simp; done) | (simp; omega) | omega) (by omega)]; first | exact c0_0 | go_simp
    replace c1_0 : w11.cell? ⟨w.heap.size + 1, 0, none⟩ = some (.slice A1_0 x1.Roots.length C1_0) := by rw [hF.cell (by first | (simp; done) | (simp; omega) | omega) (by omega)]; first | exact c1_0 | go_simp
    replace c1_1 : w11.cell? ⟨w.heap.size + 1, 1, none⟩ = some (.slice A1_1 x1.Runs.length C1_1) := by rw [hF.cell (by first | (simp; done) | (simp; omega) | omega) (by omega)]; first | exact c1_1 | go_simp
    replace c2_0 : w11.cell? ⟨b_w0, 0, none⟩ = some (.slice Aw0_0 g.Roots.length Cw0_0) := by rw [hF.cell (by first | (simp; done) | (simp; omega) | omega) (by omega)]; first | exact c2_0 | go_simp
    replace c2_1 : w11.cell? ⟨b_w0, 1, none⟩ = some (.slice Aw0_1 g.Runs.length Cw0_1) := by rw [hF.cell (by first | (simp; done) | (simp; omega) | omega) (by omega)]; first | exact c2_1 | go_simp
    replace c3_0 : w11.cell? ⟨w4.heap.size, 0, none⟩ = some (.slice Ai0_0 x0.Nodes.length Ci0_0) := by rw [hF.cell (by first | (simp; done) | (simp; omega) | omega) (by omega)]; first | exact c3_0 | go_simp
    replace c4_0 : w11.cell? ⟨w5.heap.size, 0, none⟩ = some (.slice Ai1_0 x1.Roots.length Ci1_0) := by rw [hF.cell (by first | (simp; done) | (simp; omega) | omega) (by omega)]; first | exact c4_0 | go_simp
    replace c4_1 : w11.cell? ⟨w5.heap.size, 1, none⟩ = some (.slice Ai1_1 x1.Runs.length Ci1_1) := by rw [hF.cell (by first | (simp; done) | (simp; omega) | omega) (by omega)]; first | exact c4_1 | go_simp
    replace c5_0 : w11.cell? ⟨w6.heap.size, 0, none⟩ = some (.slice Ag0_0 g.Roots.length Cg0_0) := by rw [hF.cell (by first | (simp; done) | (simp; omega) | omega) (by omega)]; first | exact c5_0 | go_simp
    replace c5_1 : w11.cell? ⟨w6.heap.size, 1, none⟩ = some (.slice Ag0_1 g.Runs.length Cg0_1) := by rw [hF.cell (by first | (simp; done) | (simp; omega) | omega) (by omega)]; first | exact c5_1 | go_simp
    replace z0 : w.heap.size < w11.heap.size := by omega
    replace z1 : w.heap.size + 1 < w11.heap.size := by omega
    replace z2 : b_w0 < w11.heap.size := by omega
    replace z3 : w4.heap.size < w11.heap.size := by omega
    replace z4 : w5.heap.size < w11.heap.size := by omega
    replace z5 : w6.heap.size < w11.heap.size := by omega
    have HB_11 := Asd.mk (Far.trans3 (HB_10.out) hF (by omega))
    replace I_w0 := Asd.mk ((I_w0.out.below (Below.refl _ _)).far hF (by omega))
    replace I_g0 := Asd.mk ((I_g0.out.below (Below.refl _ _)).far hF (by omega))
    clear hF
    clear I_i1 hI
    go_wp2_with fail
    refine (eqState_calls (g) (g) _ (I_g0.out.reps.below (Below.refl _ _)) (I_w0.out.reps.below (Below.refl _ _))).mono ?_
    rintro e w12 ⟨rfl, hb⟩
    have hF := Far.of_below hb
    have zs12 : w11.heap.size ≤ w12.heap.size := by have := hF.size; (try simp at this); omega
    replace c0_0 : w12.cell? ⟨w.heap.size, 0, none⟩ = some (.slice A0_0 x0.Nodes.length C0_0) := by rw [hF.cell (by first | (simp; done) | (simp; omega) | omega) (by omega)]; first | exact c0_0 | go_simp
    replace c1_0 : w12.cell? ⟨w.heap.size + 1, 0, none⟩ = some (.slice A1_0 x1.Roots.length C1_0) := by rw [hF.cell (by first | (simp; done) | (simp; omega) | omega) (by omega)]; first | exact c1_0 | go_simp
    replace c1_1 : w12.cell? ⟨w.heap.size + 1, 1, none⟩ = some (.slice A1_1 x1.Runs.length C1_1) := by rw [hF.cell (by first | (simp; done) | (simp; omega) | omega) (by omega)]; first | exact c1_1 | go_simp
    replace c2_0 : w12.cell? ⟨b_w0, 0, none⟩ = some (.slice Aw0_0 g.Roots.length Cw0_0) := by rw [hF.cell (by first | (simp; done) | (simp; omega) | omega) (by omega)]; first | exact c2_0 | go_simp
    replace c2_1 : w12.cell? ⟨b_w0, 1, none⟩ = some (.slice Aw0_1 g.Runs.length Cw0_1) := by rw [hF.cell (by first | (simp; done) | (simp; omega) | omega) (by omega)]; first | exact c2_1 | go_simp
    replace c3_0 : w12.cell? ⟨w4.heap.size, 0, none⟩ = some (.slice Ai0_0 x0.Nodes.length Ci0_0) := by rw [hF.cell (by first | (simp; done) | (simp; omega) | omega) (by omega)]; first | exact c3_0 | go_simp
    replace c4_0 : w12.cell? ⟨w5.heap.size, 0, none⟩ = some (.slice Ai1_0 x1.Roots.length Ci1_0) := by rw [hF.cell (by first | (simp; done) | (simp; omega) | omega) (by omega)]; first | exact c4_0 | go_simp
    replace c4_1 : w12.cell? ⟨w5.heap.size, 1, none⟩ = some (.slice Ai1_1 x1.Runs.length Ci1_1) := by rw [hF.cell (by first | (simp; done) | (simp; omega) | omega) (by omega)]; first | exact c4_1 | go_simp
    replace c5_0 : w12.cell? ⟨w6.heap.size, 0, none⟩ = some (.slice Ag0_0 g.Roots.length Cg0_0) := by rw [hF.cell (by first | (simp; done) | (simp; omega) | omega) (by omega)]; first | exact c5_0 | go_simp
    replace c5_1 : w12.cell? ⟨w6.heap.size, 1, none⟩ = some (.slice Ag0_1 g.Runs.length Cg0_1) := by rw [hF.cell (by first | (simp; done) | (simp; omega) | omega) (by omega)]; first | exact c5_1 | go_simp
    replace z0 : w.heap.size < w12.heap.size := by omega
    replace z1 : w.heap.size + 1 < w12.heap.size := by omega
    replace z2 : b_w0 < w12.heap.size := by omega
    replace z3 : w4.heap.size < w12.heap.size := by omega
    replace z4 : w5.heap.size < w12.heap.size := by omega
    replace z5 : w6.heap.size < w12.heap.size := by omega
    have HB_12 := Asd.mk (Far.trans3 (HB_11.out) hF (by omega))
    replace I_w0 := Asd.mk ((I_w0.out.below (Below.refl _ _)).far hF (by omega))
    replace I_g0 := Asd.mk ((I_g0.out.below (Below.refl _ _)).far hF (by omega))
    clear hF hb
    go_wp2_with fail
    refine (markState_calls (g) _ _ (1) _ _ (by first | rfl | omega) (I_g0.out.below (Below.refl _ _)) (by omega) (by have := kg0.out; omega)).mono ?_
    rintro e w13 ⟨he, hI, hF⟩
    rw [kg0.out] at he
    subst he
    replace hI := Asd.mk hI
    have zs13 : w12.heap.size ≤ w13.heap.size := by have := hF.size; (try simp at this); omega
    replace c0_0 : w13.cell? ⟨w.heap.size, 0, none⟩ = some (.slice A0_0 x0.Nodes.length C0_0) := by rw [hF.cell (by first | (simp; done) | (simp; omega) | omega) (by omega)]; first | exact c0_0 | go_simp
    replace c1_0 : w13.cell? ⟨w.heap.size + 1, 0, none⟩ = some (.slice A1_0 x1.Roots.length C1_0) := by rw [hF.cell (by first | (simp; done) | (simp; omega) | omega) (by omega)]; first | exact c1_0 | go_simp
    replace c1_1 : w13.cell? ⟨w.heap.size + 1, 1, none⟩ = some (.slice A1_1 x1.Runs.length C1_1) := by rw [hF.cell (by first | (simp; done) | (simp; omega) | omega) (by omega)]; first | exact c1_1 | go_simp
    replace c2_0 : w13.cell? ⟨b_w0, 0, none⟩ = some (.slice Aw0_0 g.Roots.length Cw0_0) := by rw [hF.cell (by first | (simp; done) | (simp; omega) | omega) (by omega)]; first | exact c2_0 | go_simp
    replace c2_1 : w13.cell? ⟨b_w0, 1, none⟩ = some (.slice Aw0_1 g.Runs.length Cw0_1) := by rw [hF.cell (by first | (simp; done) | (simp; omega) | omega) (by omega)]; first | exact c2_1 | go_simp
    replace c3_0 : w13.cell? ⟨w4.heap.size, 0, none⟩ = some (.slice Ai0_0 x0.Nodes.length Ci0_0) := by rw [hF.cell (by first | (simp; done) | (simp; omega) | omega) (by omega)]; first | exact c3_0 | go_simp
    replace c4_0 : w13.cell? ⟨w5.heap.size, 0, none⟩ = some (.slice Ai1_0 x1.Roots.length Ci1_0) := by rw [hF.cell (by first | (simp; done) | (simp; omega) | omega) (by omega)]; first | exact c4_0 | go_simp
    replace c4_1 : w13.cell? ⟨w5.heap.size, 1, none⟩ = some (.slice Ai1_1 x1.Runs.length Ci1_1) := by rw [hF.cell (by first | (simp; done) | (simp; omega) | omega) (by omega)]; first | exact c4_1 | go_simp
    replace c5_0 : w13.cell? ⟨w6.heap.size, 0, none⟩ = some (.slice Ag0_0 g.Roots.length Cg0_0) := by rw [hF.cell (by first | (simp; done) | (simp; omega) | omega) (by omega)]; first | exact c5_0 | go_simp
    replace c5_1 : w13.cell? ⟨w6.heap.size, 1, none⟩ = some (.slice Ag0_1 g.Runs.length Cg0_1) := by rw [hF.cell (by first | (simp; done) | (simp; omega) | omega) (by omega)]; first | exact c5_1 | go_simp
    replace z0 : w.heap.size < w13.heap.size := by omega
    replace z1 : w.heap.size + 1 < w13.heap.size := by omega
    replace z2 : b_w0 < w13.heap.size := by omega
    replace z3 : w4.heap.size < w13.heap.size := by omega
    replace z4 : w5.heap.size < w13.heap.size := by omega
    replace z5 : w6.heap.size < w13.heap.size := by omega
    have HB_13 := Asd.mk (Far.trans3 (HB_12.out) hF (by omega))
    replace I_w0 := Asd.mk ((I_w0.out.below (Below.refl _ _)).far hF (by omega))
    clear hF
    clear I_g0
    have I_m0 := hI
    clear hI
    go_wp2_with fail
    refine (heldState_calls (g) _ _ (1) _ _ (by first | rfl | omega) (I_m0.out.below (Below.refl _ _)) (by omega) (by have := kg0.out; omega)).mono ?_
    rintro e w14 ⟨he, hb⟩
    have hF := Far.of_below hb
    rw [kg0.out] at he
    subst he
    have zs14 : w13.heap.size ≤ w14.heap.size := by have := hF.size; (try simp at this); omega
    replace c0_0 : w14.cell? ⟨w.heap.size, 0, none⟩ = some (.slice A0_0 x0.Nodes.length C0_0) := by rw [hF.cell (by first | (simp; done) | (simp; omega) | omega) (by omega)]; first | exact c0_0 | go_simp
    replace c1_0 : w14.cell? ⟨w.heap.size + 1, 0, none⟩ = some (.slice A1_0 x1.Roots.length C1_0) := by rw [hF.cell (by first | (simp; done) | (simp; omega) | omega) (by omega)]; first | exact c1_0 | go_simp
    replace c1_1 : w14.cell? ⟨w.heap.size + 1, 1, none⟩ = some (.slice A1_1 x1.Runs.length C1_1) := by rw [hF.cell (by first | (simp; done) | (simp; omega) | omega) (by omega)]; first | exact c1_1 | go_simp
    replace c2_0 : w14.cell? ⟨b_w0, 0, none⟩ = some (.slice Aw0_0 g.Roots.length Cw0_0) := by rw [hF.cell (by first | (simp; done) | (simp; omega) | omega) (by omega)]; first | exact c2_0 | go_simp
    replace c2_1 : w14.cell? ⟨b_w0, 1, none⟩ = some (.slice Aw0_1 g.Runs.length Cw0_1) := by rw [hF.cell (by first | (simp; done) | (simp; omega) | omega) (by omega)]; first | exact c2_1 | go_simp
    replace c3_0 : w14.cell? ⟨w4.heap.size, 0, none⟩ = some (.slice Ai0_0 x0.Nodes.length Ci0_0) := by rw [hF.cell (by first | (simp; done) | (simp; omega) | omega) (by omega)]; first | exact c3_0 | go_simp
    replace c4_0 : w14.cell? ⟨w5.heap.size, 0, none⟩ = some (.slice Ai1_0 x1.Roots.length Ci1_0) := by rw [hF.cell (by first | (simp; done) | (simp; omega) | omega) (by omega)]; first | exact c4_0 | go_simp
    replace c4_1 : w14.cell? ⟨w5.heap.size, 1, none⟩ = some (.slice Ai1_1 x1.Runs.length Ci1_1) := by rw [hF.cell (by first | (simp; done) | (simp; omega) | omega) (by omega)]; first | exact c4_1 | go_simp
    replace c5_0 : w14.cell? ⟨w6.heap.size, 0, none⟩ = some (.slice Ag0_0 g.Roots.length Cg0_0) := by rw [hF.cell (by first | (simp; done) | (simp; omega) | omega) (by omega)]; first | exact c5_0 | go_simp
    replace c5_1 : w14.cell? ⟨w6.heap.size, 1, none⟩ = some (.slice Ag0_1 g.Runs.length Cg0_1) := by rw [hF.cell (by first | (simp; done) | (simp; omega) | omega) (by omega)]; first | exact c5_1 | go_simp
    replace z0 : w.heap.size < w14.heap.size := by omega
    replace z1 : w.heap.size + 1 < w14.heap.size := by omega
    replace z2 : b_w0 < w14.heap.size := by omega
    replace z3 : w4.heap.size < w14.heap.size := by omega
    replace z4 : w5.heap.size < w14.heap.size := by omega
    replace z5 : w6.heap.size < w14.heap.size := by omega
    have HB_14 := Asd.mk (Far.trans3 (HB_13.out) hF (by omega))
    replace I_w0 := Asd.mk ((I_w0.out.below (Below.refl _ _)).far hF (by omega))
    replace I_m0 := Asd.mk ((I_m0.out.below (Below.refl _ _)).far hF (by omega))
    clear hF hb
    have hkeep := Asd.mk (show ∀ W, Below w14.heap.size w14 W → (Below w14.heap.size w14 W ∧ W.cell? ⟨w.heap.size, 0, none⟩ = some (.slice A0_0 x0.Nodes.length C0_0) ∧ W.cell? ⟨w.heap.size + 1, 0, none⟩ = some (.slice A1_0 x1.Roots.length C1_0) ∧ W.cell? ⟨w.heap.size + 1, 1, none⟩ = some (.slice A1_1 x1.Runs.length C1_1)) from fun W hb => ⟨hb, cell_below hb c0_0, cell_below hb c1_0, cell_below hb c1_1⟩)
    have s_0 : Below w14.heap.size w14 w14.drew := (Below.refl _ _).drew
    go_wp2
    go_cut [15] (fun s15_ X => ∃ (b_k0 : Nat) (Ak0_0 : Option Addr) (Ak0_1 : Option Addr) (Ck0_0 : Nat) (Ck0_1 : Nat), s15_ = .pointer (some ⟨b_k0, 0, none⟩) ∧ (w14.heap.size ≤ b_k0 ∧ b_k0 < X.heap.size) ∧ X.cell? ⟨b_k0, 0, none⟩ = some (.slice Ak0_0 g.Roots.length Ck0_0) ∧ X.cell? ⟨b_k0, 1, none⟩ = some (.slice Ak0_1 g.Runs.length Ck0_1) ∧ Iv 0 X.heap.size X (g.c 84) [.slice Ak0_0 g.Roots.length Ck0_0, .slice Ak0_1 g.Runs.length Ck0_1] ∧ Below w14.heap.size w14 X)
    case first =>
      go_region_held3 (fun W => Below w14.heap.size w14 W ∧ W.cell? ⟨w.heap.size, 0, none⟩ = some (.slice A0_0 x0.Nodes.length C0_0) ∧ W.cell? ⟨w.heap.size + 1, 0, none⟩ = some (.slice A1_0 x1.Roots.length C1_0) ∧ W.cell? ⟨w.heap.size + 1, 1, none⟩ = some (.slice A1_1 x1.Runs.length C1_1)) ((refine hkeep.out _ ?_; (repeat (first | (with_reducible exact Below.refl _ _) | (with_reducible exact s_0) | (with_reducible refine below_al ?_ _) | (with_reducible refine below_dr ?_ _) | (with_reducible refine below_d1 ?_) | ((with_reducible refine Below.setCell ?_ ?_ _); rotate_left; (next => first | (simp; done) | (simp; omega) | omega))))))
        (first | (go_at_call 18; refine (toWeb_calls x0 _ (H0.out.below (below_st (HB_14.out) (show Below w14.heap.size w14 _ from by repeat (first | (with_reducible exact Below.refl _ _) | (with_reducible exact s_0) | (with_reducible refine below_al ?_ _) | (with_reducible refine below_dr ?_ _) | (with_reducible refine below_d1 ?_) | ((with_reducible refine Below.setCell ?_ ?_ _); rotate_left; (next => first | (simp; done) | (simp; omega) | omega)))))) (by omega)).mono ?_; rintro e W0 ⟨us, rfl, ⟨F_, o_, n_, l_⟩, hb⟩; obtain ⟨v_0, G_0, rfl, p_0, rfl⟩ := Web.oopen o_; obtain ⟨D0_0, d0_0, rfl, _, _⟩ := own_slice p_0; have r_s0 := Asd.mk o_.rep; obtain ⟨s_0, s_1, s_2, s_3⟩ := hkeep.out _ (below_st (show Below w14.heap.size w14 _ from by repeat (first | (with_reducible exact Below.refl _ _) | (with_reducible exact s_0) | (with_reducible refine below_al ?_ _) | (with_reducible refine below_dr ?_ _) | (with_reducible refine below_d1 ?_) | ((with_reducible refine Below.setCell ?_ ?_ _); rotate_left; (next => first | (simp; done) | (simp; omega) | omega)))) hb); obtain ⟨hcx_W0, hfx_W0⟩ := bcell hb; (try have yw14_W0 := (show w14.heap.size < W0.heap.size by have := hb.size; (try simp at this); omega)); have x_W0 := s_0.size; clear hb o_ l_ n_ p_0) | (go_at_call 19; refine (toState_calls x1 _ (H1.out.below (below_st (HB_14.out) (show Below w14.heap.size w14 _ from by repeat (first | (with_reducible exact Below.refl _ _) | (with_reducible exact s_0) | (with_reducible refine below_al ?_ _) | (with_reducible refine below_dr ?_ _) | (with_reducible refine below_d1 ?_) | ((with_reducible refine Below.setCell ?_ ?_ _); rotate_left; (next => first | (simp; done) | (simp; omega) | omega)))))) (by omega)).mono ?_; rintro e W1 ⟨us, rfl, ⟨F_, o_, n_, l_⟩, hb⟩; obtain ⟨v_0, G_0, v_1, G_1, rfl, p_0, p_1, rfl⟩ := State.oopen o_; obtain ⟨D1_0, d1_0, rfl, _, _⟩ := own_slice p_0; obtain ⟨D1_1, d1_1, rfl, _, _⟩ := own_slice p_1; have r_s1 := Asd.mk o_.rep; replace r_s0 := Asd.mk (r_s0.out.below (below_st (by repeat (first | (with_reducible exact Below.refl _ _) | (with_reducible exact Below.refl _ _) | (with_reducible refine below_al ?_ _) | (with_reducible refine below_dr ?_ _) | (with_reducible refine below_d1 ?_) | ((with_reducible refine Below.setCell ?_ ?_ _); rotate_left; (next => first | (simp; done) | (simp; omega) | omega)))) hb)); obtain ⟨s_0, s_1, s_2, s_3⟩ := hkeep.out _ (below_st (show Below w14.heap.size w14 _ from by repeat (first | (with_reducible exact Below.refl _ _) | (with_reducible exact s_0) | (with_reducible refine below_al ?_ _) | (with_reducible refine below_dr ?_ _) | (with_reducible refine below_d1 ?_) | ((with_reducible refine Below.setCell ?_ ?_ _); rotate_left; (next => first | (simp; done) | (simp; omega) | omega)))) hb); obtain ⟨hcx_W1, hfx_W1⟩ := bcell hb; (try have yw14_W1 := (show w14.heap.size < W1.heap.size by have := hb.size; (try simp at this); omega)); (try have yW0_W1 := (show W0.heap.size < W1.heap.size by have := hb.size; (try simp at this); omega)); have x_W1 := s_0.size; clear hb o_ l_ n_ p_0 p_1) | (go_at_call 50; refine (Do_gives x0 x1 x2 _ (r_s0.out.below (by repeat (first | (with_reducible exact Below.refl _ _) | (with_reducible exact Below.refl _ _) | (with_reducible refine below_al ?_ _) | (with_reducible refine below_dr ?_ _) | (with_reducible refine below_d1 ?_) | ((with_reducible refine Below.setCell ?_ ?_ _); rotate_left; (next => first | (simp; done) | (simp; omega) | omega))))) (r_s1.out.below (by repeat (first | (with_reducible exact Below.refl _ _) | (with_reducible exact Below.refl _ _) | (with_reducible refine below_al ?_ _) | (with_reducible refine below_dr ?_ _) | (with_reducible refine below_d1 ?_) | ((with_reducible refine Below.setCell ?_ ?_ _); rotate_left; (next => first | (simp; done) | (simp; omega) | omega))))) (Web.zsm hz0.out) (Nat.lt_of_lt_of_le hg (below_st (HB_14.out) (show Below w14.heap.size w14 _ from by repeat (first | (with_reducible exact Below.refl _ _) | (with_reducible exact s_0) | (with_reducible refine below_al ?_ _) | (with_reducible refine below_dr ?_ _) | (with_reducible refine below_d1 ?_) | ((with_reducible refine Below.setCell ?_ ?_ _); rotate_left; (next => first | (simp; done) | (simp; omega) | omega))))).size) (cell_below (below_st (HB_14.out) (show Below w14.heap.size w14 _ from by repeat (first | (with_reducible exact Below.refl _ _) | (with_reducible exact s_0) | (with_reducible refine below_al ?_ _) | (with_reducible refine below_dr ?_ _) | (with_reducible refine below_d1 ?_) | ((with_reducible refine Below.setCell ?_ ?_ _); rotate_left; (next => first | (simp; done) | (simp; omega) | omega))))) ht)).mono ?_; rw [gx]; rintro e w15 ⟨v0_, v1_, rfl, hM, hb⟩; have I_k0 : Asd (Iv _ w15.heap.size w15 (g.c 84) _) := Asd.mk ((Iv.of_mades hM).mono (Nat.le_refl _) (Nat.le_refl _)); obtain ⟨F_, o_, _, _⟩ := hM; obtain ⟨_, _, _, _, he_, p_0, p_1, _⟩ := State.oopen o_; obtain ⟨Ak0_0, Ck0_0, rfl, _, _⟩ := own_slice p_0; obtain ⟨Ak0_1, Ck0_1, rfl, _, _⟩ := own_slice p_1; cases he_; clear o_ p_0 p_1; obtain ⟨s_0, s_1, s_2, s_3⟩ := hkeep.out _ (below_st (show Below w14.heap.size w14 _ from by repeat (first | (with_reducible exact Below.refl _ _) | (with_reducible exact s_0) | (with_reducible refine below_al ?_ _) | (with_reducible refine below_dr ?_ _) | (with_reducible refine below_d1 ?_) | ((with_reducible refine Below.setCell ?_ ?_ _); rotate_left; (next => first | (simp; done) | (simp; omega) | omega)))) hb); obtain ⟨hcx_w15, hfx_w15⟩ := bcell hb; (try have yw14_w15 := (show w14.heap.size < w15.heap.size by have := hb.size; (try simp at this); omega)); (try have yW0_w15 := (show W0.heap.size < w15.heap.size by have := hb.size; (try simp at this); omega)); (try have yW1_w15 := (show W1.heap.size < w15.heap.size by have := hb.size; (try simp at this); omega)); have x_w15 := s_0.size; clear hb))
      all_goals
        (go_wp2_with fail; go_meet; refine ⟨_, Ak0_0, Ak0_1, Ck0_0, Ck0_1, rfl, (by constructor <;> (first | (simp; done) | (simp; omega) | omega)), (by go_simp), (by go_simp), (by first | exact (I_k0.out.set (by first | (simp; done) | (simp; omega) | omega) _).mono (Nat.zero_le _) (by simp) | exact ((I_k0.out.set (by first | (simp; done) | (simp; omega) | omega) _).set (by first | (simp; done) | (simp; omega) | omega) _).mono (Nat.zero_le _) (by simp) | exact (I_k0.out.below (by repeat (first | (with_reducible exact Below.refl _ _) | (with_reducible exact Below.refl _ _) | (with_reducible refine below_al ?_ _) | (with_reducible refine below_dr ?_ _) | (with_reducible refine below_d1 ?_) | ((with_reducible refine Below.setCell ?_ ?_ _); rotate_left; (next => first | (simp; done) | (simp; omega) | omega))))).mono (Nat.zero_le _) (by simp)), ?_⟩; (repeat (first | (with_reducible exact Below.refl _ _) | (with_reducible exact s_0) | (with_reducible refine below_al ?_ _) | (with_reducible refine below_dr ?_ _) | (with_reducible refine below_d1 ?_) | ((with_reducible refine Below.setCell ?_ ?_ _); rotate_left; (next => first | (simp; done) | (simp; omega) | omega)))))
    case rest =>
      clear s_0
      obtain ⟨b_k0, Ak0_0, Ak0_1, Ck0_0, Ck0_1, rfl, ⟨zb0_k0, zb_k0⟩, cck0_0, cck0_1, I_k0, s_0⟩ := hcut
      obtain ⟨w15, rfl⟩ : ∃ X, X = wc := ⟨_, rfl⟩
      have hF : Far 0 0 w14 w15 := Far.of_below s_0
      clear hkeep s_0
      have zs15 : w14.heap.size ≤ w15.heap.size := by have := hF.size; (try simp at this); omega
      replace c0_0 : w15.cell? ⟨w.heap.size, 0, none⟩ = some (.slice A0_0 x0.Nodes.length C0_0) := by rw [hF.cell (by first | (simp; done) | (simp; omega) | omega) (by omega)]; first | exact c0_0 | go_simp
      replace c1_0 : w15.cell? ⟨w.heap.size + 1, 0, none⟩ = some (.slice A1_0 x1.Roots.length C1_0) := by rw [hF.cell (by first | (simp; done) | (simp; omega) | omega) (by omega)]; first | exact c1_0 | go_simp
      replace c1_1 : w15.cell? ⟨w.heap.size + 1, 1, none⟩ = some (.slice A1_1 x1.Runs.length C1_1) := by rw [hF.cell (by first | (simp; done) | (simp; omega) | omega) (by omega)]; first | exact c1_1 | go_simp
      replace c2_0 : w15.cell? ⟨b_w0, 0, none⟩ = some (.slice Aw0_0 g.Roots.length Cw0_0) := by rw [hF.cell (by first | (simp; done) | (simp; omega) | omega) (by omega)]; first | exact c2_0 | go_simp
      replace c2_1 : w15.cell? ⟨b_w0, 1, none⟩ = some (.slice Aw0_1 g.Runs.length Cw0_1) := by rw [hF.cell (by first | (simp; done) | (simp; omega) | omega) (by omega)]; first | exact c2_1 | go_simp
      replace c3_0 : w15.cell? ⟨w4.heap.size, 0, none⟩ = some (.slice Ai0_0 x0.Nodes.length Ci0_0) := by rw [hF.cell (by first | (simp; done) | (simp; omega) | omega) (by omega)]; first | exact c3_0 | go_simp
      replace c4_0 : w15.cell? ⟨w5.heap.size, 0, none⟩ = some (.slice Ai1_0 x1.Roots.length Ci1_0) := by rw [hF.cell (by first | (simp; done) | (simp; omega) | omega) (by omega)]; first | exact c4_0 | go_simp
      replace c4_1 : w15.cell? ⟨w5.heap.size, 1, none⟩ = some (.slice Ai1_1 x1.Runs.length Ci1_1) := by rw [hF.cell (by first | (simp; done) | (simp; omega) | omega) (by omega)]; first | exact c4_1 | go_simp
      replace c5_0 : w15.cell? ⟨w6.heap.size, 0, none⟩ = some (.slice Ag0_0 g.Roots.length Cg0_0) := by rw [hF.cell (by first | (simp; done) | (simp; omega) | omega) (by omega)]; first | exact c5_0 | go_simp
      replace c5_1 : w15.cell? ⟨w6.heap.size, 1, none⟩ = some (.slice Ag0_1 g.Runs.length Cg0_1) := by rw [hF.cell (by first | (simp; done) | (simp; omega) | omega) (by omega)]; first | exact c5_1 | go_simp
      replace z0 : w.heap.size < w15.heap.size := by omega
      replace z1 : w.heap.size + 1 < w15.heap.size := by omega
      replace z2 : b_w0 < w15.heap.size := by omega
      replace z3 : w4.heap.size < w15.heap.size := by omega
      replace z4 : w5.heap.size < w15.heap.size := by omega
      replace z5 : w6.heap.size < w15.heap.size := by omega
      have HB_15 := Asd.mk (Far.trans3 (HB_14.out) hF (by omega))
      replace I_w0 := Asd.mk ((I_w0.out.below (Below.refl _ _)).far hF (by omega))
      replace I_m0 := Asd.mk ((I_m0.out.below (Below.refl _ _)).far hF (by omega))
      clear hF
      replace I_k0 := Asd.mk I_k0
      have c6_0 := cck0_0
      have c6_1 := cck0_1
      have z6 : b_k0 < w15.heap.size := zb_k0
      clear cck0_0 cck0_1
      go_wp2_with fail
      refine (eqState_calls (g) (g) _ (I_k0.out.reps.below (Below.refl _ _)) (I_w0.out.reps.below (Below.refl _ _))).mono ?_
      rintro e w16 ⟨rfl, hb⟩
      have hF := Far.of_below hb
      have zs16 : w15.heap.size ≤ w16.heap.size := by have := hF.size; (try simp at this); omega
      replace c0_0 : w16.cell? ⟨w.heap.size, 0, none⟩ = some (.slice A0_0 x0.Nodes.length C0_0) := by rw [hF.cell (by first | (simp; done) | (simp; omega) | omega) (by omega)]; first | exact c0_0 | go_simp
      replace c1_0 : w16.cell? ⟨w.heap.size + 1, 0, none⟩ = some (.slice A1_0 x1.Roots.length C1_0) := by rw [hF.cell (by first | (simp; done) | (simp; omega) | omega) (by omega)]; first | exact c1_0 | go_simp
      replace c1_1 : w16.cell? ⟨w.heap.size + 1, 1, none⟩ = some (.slice A1_1 x1.Runs.length C1_1) := by rw [hF.cell (by first | (simp; done) | (simp; omega) | omega) (by omega)]; first | exact c1_1 | go_simp
      replace c2_0 : w16.cell? ⟨b_w0, 0, none⟩ = some (.slice Aw0_0 g.Roots.length Cw0_0) := by rw [hF.cell (by first | (simp; done) | (simp; omega) | omega) (by omega)]; first | exact c2_0 | go_simp
      replace c2_1 : w16.cell? ⟨b_w0, 1, none⟩ = some (.slice Aw0_1 g.Runs.length Cw0_1) := by rw [hF.cell (by first | (simp; done) | (simp; omega) | omega) (by omega)]; first | exact c2_1 | go_simp
      replace c3_0 : w16.cell? ⟨w4.heap.size, 0, none⟩ = some (.slice Ai0_0 x0.Nodes.length Ci0_0) := by rw [hF.cell (by first | (simp; done) | (simp; omega) | omega) (by omega)]; first | exact c3_0 | go_simp
      replace c4_0 : w16.cell? ⟨w5.heap.size, 0, none⟩ = some (.slice Ai1_0 x1.Roots.length Ci1_0) := by rw [hF.cell (by first | (simp; done) | (simp; omega) | omega) (by omega)]; first | exact c4_0 | go_simp
      replace c4_1 : w16.cell? ⟨w5.heap.size, 1, none⟩ = some (.slice Ai1_1 x1.Runs.length Ci1_1) := by rw [hF.cell (by first | (simp; done) | (simp; omega) | omega) (by omega)]; first | exact c4_1 | go_simp
      replace c5_0 : w16.cell? ⟨w6.heap.size, 0, none⟩ = some (.slice Ag0_0 g.Roots.length Cg0_0) := by rw [hF.cell (by first | (simp; done) | (simp; omega) | omega) (by omega)]; first | exact c5_0 | go_simp
      replace c5_1 : w16.cell? ⟨w6.heap.size, 1, none⟩ = some (.slice Ag0_1 g.Runs.length Cg0_1) := by rw [hF.cell (by first | (simp; done) | (simp; omega) | omega) (by omega)]; first | exact c5_1 | go_simp
      replace c6_0 : w16.cell? ⟨b_k0, 0, none⟩ = some (.slice Ak0_0 g.Roots.length Ck0_0) := by rw [hF.cell (by first | (simp; done) | (simp; omega) | omega) (by omega)]; first | exact c6_0 | go_simp
      replace c6_1 : w16.cell? ⟨b_k0, 1, none⟩ = some (.slice Ak0_1 g.Runs.length Ck0_1) := by rw [hF.cell (by first | (simp; done) | (simp; omega) | omega) (by omega)]; first | exact c6_1 | go_simp
      replace z0 : w.heap.size < w16.heap.size := by omega
      replace z1 : w.heap.size + 1 < w16.heap.size := by omega
      replace z2 : b_w0 < w16.heap.size := by omega
      replace z3 : w4.heap.size < w16.heap.size := by omega
      replace z4 : w5.heap.size < w16.heap.size := by omega
      replace z5 : w6.heap.size < w16.heap.size := by omega
      replace z6 : b_k0 < w16.heap.size := by omega
      have HB_16 := Asd.mk (Far.trans3 (HB_15.out) hF (by omega))
      replace I_w0 := Asd.mk ((I_w0.out.below (Below.refl _ _)).far hF (by omega))
      replace I_m0 := Asd.mk ((I_m0.out.below (Below.refl _ _)).far hF (by omega))
      replace I_k0 := Asd.mk ((I_k0.out.below (Below.refl _ _)).far hF (by omega))
      clear hF hb
      go_wp2_with fail
      refine (heldState_calls (g) _ _ (1) _ _ (by first | rfl | omega) (I_m0.out.below (Below.refl _ _)) (by omega) (by have := kg0.out; omega)).mono ?_
      rintro e w17 ⟨he, hb⟩
      have hF := Far.of_below hb
      rw [kg0.out] at he
      subst he
      have zs17 : w16.heap.size ≤ w17.heap.size := by have := hF.size; (try simp at this); omega
      replace c0_0 : w17.cell? ⟨w.heap.size, 0, none⟩ = some (.slice A0_0 x0.Nodes.length C0_0) := by rw [hF.cell (by first | (simp; done) | (simp; omega) | omega) (by omega)]; first | exact c0_0 | go_simp
      replace c1_0 : w17.cell? ⟨w.heap.size + 1, 0, none⟩ = some (.slice A1_0 x1.Roots.length C1_0) := by rw [hF.cell (by first | (simp; done) | (simp; omega) | omega) (by omega)]; first | exact c1_0 | go_simp
      replace c1_1 : w17.cell? ⟨w.heap.size + 1, 1, none⟩ = some (.slice A1_1 x1.Runs.length C1_1) := by rw [hF.cell (by first | (simp; done) | (simp; omega) | omega) (by omega)]; first | exact c1_1 | go_simp
      replace c2_0 : w17.cell? ⟨b_w0, 0, none⟩ = some (.slice Aw0_0 g.Roots.length Cw0_0) := by rw [hF.cell (by first | (simp; done) | (simp; omega) | omega) (by omega)]; first | exact c2_0 | go_simp
      replace c2_1 : w17.cell? ⟨b_w0, 1, none⟩ = some (.slice Aw0_1 g.Runs.length Cw0_1) := by rw [hF.cell (by first | (simp; done) | (simp; omega) | omega) (by omega)]; first | exact c2_1 | go_simp
      replace c3_0 : w17.cell? ⟨w4.heap.size, 0, none⟩ = some (.slice Ai0_0 x0.Nodes.length Ci0_0) := by rw [hF.cell (by first | (simp; done) | (simp; omega) | omega) (by omega)]; first | exact c3_0 | go_simp
      replace c4_0 : w17.cell? ⟨w5.heap.size, 0, none⟩ = some (.slice Ai1_0 x1.Roots.length Ci1_0) := by rw [hF.cell (by first | (simp; done) | (simp; omega) | omega) (by omega)]; first | exact c4_0 | go_simp
      replace c4_1 : w17.cell? ⟨w5.heap.size, 1, none⟩ = some (.slice Ai1_1 x1.Runs.length Ci1_1) := by rw [hF.cell (by first | (simp; done) | (simp; omega) | omega) (by omega)]; first | exact c4_1 | go_simp
      replace c5_0 : w17.cell? ⟨w6.heap.size, 0, none⟩ = some (.slice Ag0_0 g.Roots.length Cg0_0) := by rw [hF.cell (by first | (simp; done) | (simp; omega) | omega) (by omega)]; first | exact c5_0 | go_simp
      replace c5_1 : w17.cell? ⟨w6.heap.size, 1, none⟩ = some (.slice Ag0_1 g.Runs.length Cg0_1) := by rw [hF.cell (by first | (simp; done) | (simp; omega) | omega) (by omega)]; first | exact c5_1 | go_simp
      replace c6_0 : w17.cell? ⟨b_k0, 0, none⟩ = some (.slice Ak0_0 g.Roots.length Ck0_0) := by rw [hF.cell (by first | (simp; done) | (simp; omega) | omega) (by omega)]; first | exact c6_0 | go_simp
      replace c6_1 : w17.cell? ⟨b_k0, 1, none⟩ = some (.slice Ak0_1 g.Runs.length Ck0_1) := by rw [hF.cell (by first | (simp; done) | (simp; omega) | omega) (by omega)]; first | exact c6_1 | go_simp
      replace z0 : w.heap.size < w17.heap.size := by omega
      replace z1 : w.heap.size + 1 < w17.heap.size := by omega
      replace z2 : b_w0 < w17.heap.size := by omega
      replace z3 : w4.heap.size < w17.heap.size := by omega
      replace z4 : w5.heap.size < w17.heap.size := by omega
      replace z5 : w6.heap.size < w17.heap.size := by omega
      replace z6 : b_k0 < w17.heap.size := by omega
      have HB_17 := Asd.mk (Far.trans3 (HB_16.out) hF (by omega))
      replace I_w0 := Asd.mk ((I_w0.out.below (Below.refl _ _)).far hF (by omega))
      replace I_m0 := Asd.mk ((I_m0.out.below (Below.refl _ _)).far hF (by omega))
      replace I_k0 := Asd.mk ((I_k0.out.below (Below.refl _ _)).far hF (by omega))
      clear hF hb
      go_wp2
      go_ret
      exact ⟨rfl, HB_17.out⟩
end Go.Proofs.YtkpkfihaihoaeaaGreatDoor.M
end
