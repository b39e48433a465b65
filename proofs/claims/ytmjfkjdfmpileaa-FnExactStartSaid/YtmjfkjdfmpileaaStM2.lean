/- For every web and list of roots the law of Start answers true. No condition. -/
import Derived.Test.YtmjfkjdfmpileaaStM1
import Derived.Test.YtmjfkjdfmpileaaWeb
import Derived.Test.YtmjfkjdfmpileaaSWeb
import Derived.Test.YtmjfkjdfmpileaaCtB
import Derived.Test.YtmjfkjdfmpileaaToB
import Derived.Test.YtmjfkjdfmpileaaEqB
import Derived.Test.YtmjfkjdfmpileaaSzB
import Derived.Test.YtmjfkjdfmpileaaSzS
import Derived.Test.YtmjfkjdfmpileaaMkB
import Derived.Deep.RegionWith
import Derived.Deep.RegionHeld3
import Derived.Test.YtmjfkjdfmpileaaRows
import Derived.Test.YtmjfkjdfmpileaaRdB
import Derived.Test.YtmjfkjdfmpileaaRdS
import Derived.Test.YtmjfkjdfmpileaaRo
import Derived.WalkKit
import Derived.ProofKit
import Derived.OpenShut
import Derived.ShutString
import Derived.ChangeOld
import Derived.Below
import Derived.SizedLaws
section
set_option linter.unusedVariables false
set_option linter.unusedSimpArgs false
namespace Go.Proofs.Ytmjfkjdfmpileaa.M
open Go.RowKit
def startS (W : Web) (roots : List ByteArray) : State := if checkWeb W = 0 ∧ rootsOk roots = true then ⟨roots, begin_ W roots⟩ else ⟨[], []⟩
theorem begin_fresh {W : Web} {roots : List ByteArray} {r : Run} (h : r ∈ begin_ W roots) : ∃ q, r = newRun q ∧ hasN W.Nodes q = true := by
  rcases mem_wants _ h with h | ⟨q, _, rfl, hq⟩
  · cases h
  · exact ⟨q, rfl, hq⟩
theorem begin_asc (W : Web) (roots : List ByteArray) : AscR (begin_ W roots) := wants_asc _ AscR.nil
theorem asc_sub_len0 : ∀ {a b : List ByteArray}, Asc a → Asc b → (∀ x ∈ a, x ∈ b) → a.length ≤ b.length
  | [], _, _, _, _ => Nat.zero_le _
  | x :: a, [], _, _, h => by have := h x (List.mem_cons_self ..); cases this
  | x :: a, y :: b, ha, hb, h => by
    obtain ⟨h1, h2⟩ := List.pairwise_cons.1 ha
    obtain ⟨k1, k2⟩ := List.pairwise_cons.1 hb
    rw [List.length_cons, List.length_cons]
    refine Nat.succ_le_succ (asc_sub_len0 h2 k2 fun z hz => ?_)
    rcases List.mem_cons.1 (h z (List.mem_cons_of_mem _ hz)) with rfl | hz'
    · exfalso
      have hx := h1 z hz
      rcases List.mem_cons.1 (h x (List.mem_cons_self ..)) with rfl | hxb
      · rw [ltS_irr] at hx; cases hx
      · rw [ltS_asymm (k1 x hxb)] at hx; cases hx
    · exact hz'
theorem begin_len {W : Web} (hw : checkWeb W = 0) (roots : List ByteArray) : (begin_ W roots).length ≤ W.Nodes.length := by
  obtain ⟨_, _, h3, _⟩ := checkWeb_ok hw
  have := asc_sub_len0 (begin_asc W roots) (ascB_asc h3) (fun x hx => by
    obtain ⟨r, hr, rfl⟩ := List.mem_map.1 hx
    obtain ⟨q, rfl, hq⟩ := begin_fresh hr
    obtain ⟨n, hn, e⟩ := (hasN_iff _ _).1 hq
    exact List.mem_map.2 ⟨n, hn, e⟩)
  simpa using this
theorem rootsOk_le {roots : List ByteArray} (h : rootsOk roots = true) : roots.length ≤ 10 := by
  simp only [rootsOk, Bool.and_eq_true, inB, decide_eq_true_eq] at h; omega
theorem mades_zero {w w' : World} : Mades w w' (State.c 126 ⟨[], []⟩) [.slice none 0 0, .slice none 0 0] :=
  ⟨[] ++ [], State.omk (x := ⟨[], []⟩) (own_nil _ _ _) (own_nil _ _ _), by simp, fun k hk => by simp at hk⟩
set_option maxRecDepth 100000 in
set_option maxHeartbeats 2000000 in
theorem Start_calls {tN tS tC ts : Nat} (W : Web) (roots : List ByteArray) (v : Value) (w : World) {vs : List Value} (h : reps w (W.c tN tS tC) vs) (hv : rep w (strsT ts roots) v) (hz : W.Sm) :
    Calls Try.prog 26 #[.agg vs.toArray, v] w (StateP (startS W roots).Roots (startS W roots).Runs w) := by
  obtain ⟨v0, rfl, h0⟩ := Web.ropen h
  obtain ⟨A, c, rfl, _, _⟩ := rep_len h0
  obtain ⟨B, d, rfl, _, _⟩ := rep_len hv
  clear h
  replace h0 := Asd.mk h0
  replace hv := Asd.mk hv
  have HB := Asd.mk (below_al (below_al (Below.refl w.heap.size w) (.cells #[.slice A W.Nodes.length c] 28)) (.cells #[.slice none 0 0, .slice none 0 0] 60))
  by_cases q1 : checkWeb W = 0
  rotate_left
  · have e1 := Asd.mk (show startS W roots = ⟨[], []⟩ by rw [startS, if_neg (by simp [q1])])
    obtain ⟨n, hn⟩ : ∃ n, checkWeb W = n := ⟨_, rfl⟩
    have q2 : decide (n = 0) = false := by simp [← hn, q1]
    go_enter Try.func26, Try.ntmps26
    go_wp2_with fail
    refine (CheckWeb_calls W _ (Web.rmk W (h0.out.below HB.out)) hz).mono ?_
    rintro e w1 ⟨rfl, hb⟩
    rw [hn]
    replace q1 : n ≠ 0 := hn ▸ q1
    clear hn
    obtain ⟨hcx, hfx⟩ := bcell hb
    have hzz : w.heap.size + 1 < w1.heap.size := by have := hb.size; simp at this; omega
    have HW := Asd.mk (below_st HB.out hb)
    clear hb
    go_wp2
    refine bodyPost_ret (v := .agg #[.slice none 0 0, .slice none 0 0]) (by simp [results, Try.results26, go_sem, *]) rfl ?_
    rw [e1.out]
    exact ⟨_, _, rfl, mades_zero, by repeat (first | (with_reducible exact Below.refl _ _) | (with_reducible exact HW.out) | (with_reducible refine below_al ?_ _) | (with_reducible refine below_dr ?_ _) | (with_reducible refine below_d1 ?_) | ((with_reducible refine Below.setCell ?_ ?_ _); rotate_left; (next => first | (simp; done) | (simp; omega) | omega)))⟩
  by_cases q2 : rootsOk roots = true
  rotate_left
  · have e1 := Asd.mk (show startS W roots = ⟨[], []⟩ by rw [startS, if_neg (by simp [q2])])
    replace q2 := Bool.eq_false_iff.2 q2
    go_enter Try.func26, Try.ntmps26
    go_wp2_with fail
    refine (CheckWeb_calls W _ (Web.rmk W (h0.out.below HB.out)) hz).mono ?_
    rintro e w1 ⟨rfl, hb⟩
    rw [q1]
    obtain ⟨hcx, hfx⟩ := bcell hb
    have hzz : w.heap.size + 1 < w1.heap.size := by have := hb.size; simp at this; omega
    have HW := Asd.mk (below_st HB.out hb)
    clear hb
    go_wp2_with (first | (go_at_call 62; refine (goodRoots_calls roots _ _ (hv.out.below HW.out)).mono ?_; rintro e w' ⟨rfl, rfl⟩))
    refine bodyPost_ret (v := .agg #[.slice none 0 0, .slice none 0 0]) (by simp [results, Try.results26, go_sem, *]) rfl ?_
    rw [e1.out]
    exact ⟨_, _, rfl, mades_zero, by repeat (first | (with_reducible exact Below.refl _ _) | (with_reducible exact HW.out) | (with_reducible refine below_al ?_ _) | (with_reducible refine below_dr ?_ _) | (with_reducible refine below_d1 ?_) | ((with_reducible refine Below.setCell ?_ ?_ _); rotate_left; (next => first | (simp; done) | (simp; omega) | omega)))⟩
  have e1 := Asd.mk (show startS W roots = ⟨roots, begin_ W roots⟩ by rw [startS, if_pos ⟨q1, q2⟩])
  obtain ⟨hl, _, hA2, _⟩ := checkWeb_ok q1
  have hasc := Asd.mk (ascB_asc hA2)
  have hrl := rootsOk_le q2
  have hbl := Asd.mk (begin_len q1 roots)
  go_enter Try.func26, Try.ntmps26
  go_wp2_with fail
  refine (CheckWeb_calls W _ (Web.rmk W (h0.out.below HB.out)) hz).mono ?_
  rintro e w1 ⟨rfl, hb⟩
  rw [q1]
  obtain ⟨hcx, hfx⟩ := bcell hb
  have hzz : w.heap.size + 1 < w1.heap.size := by have := hb.size; simp at this; omega
  have HW := Asd.mk (below_st HB.out hb)
  clear hb
  go_wp2_with (first | (go_at_call 62; refine (goodRoots_calls roots _ _ (hv.out.below HW.out)).mono ?_; rintro e w' ⟨rfl, rfl⟩))
  refine (begin_calls W roots _ _ (Web.rmk W (h0.out.below HW.out)) (hv.out.below HW.out) hasc.out (by omega) (by omega)).mono ?_
  rintro e w2 ⟨eg, F, rfl, hE, hb⟩
  have HW2 := Asd.mk (below_st HW.out hb)
  obtain ⟨hcx2, hfx2⟩ := bcell hb
  have hzz2 : w.heap.size + 1 < w2.heap.size := by have := hb.size; omega
  clear hb
  replace hE := Asd.mk hE
  go_wp2_with fail
  refine (state_calls W roots _ eg F _ hE.out (by have := hbl.out; omega) (by omega) (fun r hr => by obtain ⟨q, rfl, _⟩ := begin_fresh hr; simp [newRun])).mono ?_
  rintro e w3 ⟨v0, v1, rfl, hM, hb⟩
  have HW3 := Asd.mk (below_st HW2.out hb)
  obtain ⟨hcx3, hfx3⟩ := bcell hb
  have hzz3 : w.heap.size + 1 < w3.heap.size := by have := hb.size; omega
  have hM3 := Asd.mk (show ∃ F, owns w3 (State.c 126 ⟨roots, begin_ W roots⟩) [v0, v1] F ∧ F.Nodup ∧ ∀ k ∈ F, w2.heap.size ≤ k from hM)
  obtain ⟨Fm, om, _, _⟩ := hM
  obtain ⟨_, F0, _, F1, he, p0, p1, _⟩ := State.oopen om
  obtain ⟨A0, d0, rfl, _, _⟩ := own_slice p0
  obtain ⟨A1, d1, rfl, _, _⟩ := own_slice p1
  cases he
  clear hb om p0 p1
  go_wp2
  refine bodyPost_ret (v := .agg #[.slice A0 roots.length d0, .slice A1 (begin_ W roots).length d1]) (by simp [results, Try.results26, go_sem, *]) rfl ?_
  rw [e1.out]
  obtain ⟨Fo, o, n, l⟩ := hM3.out
  refine ⟨_, _, rfl, ⟨Fo, ?_, n, fun k hk => by have := l k hk; omega⟩, by repeat (first | (with_reducible exact Below.refl _ _) | (with_reducible exact HW3.out) | (with_reducible refine below_al ?_ _) | (with_reducible refine below_dr ?_ _) | (with_reducible refine below_d1 ?_) | ((with_reducible refine Below.setCell ?_ ?_ _); rotate_left; (next => first | (simp; done) | (simp; omega) | omega)))⟩
  exact (o.set (p := ⟨w.heap.size + 1, 0, none⟩) (fun h => by have := l _ h; simp at this; omega) _).set (p := ⟨w.heap.size + 1, 1, none⟩) (fun h => by have := l _ h; simp at this; omega) _
end Go.Proofs.Ytmjfkjdfmpileaa.M
end
section
set_option linter.unusedVariables false
set_option linter.unusedSimpArgs false
attribute [local go_sem ↓] Go.wp_at_zero Go.wp_at_succ
namespace Go.Proofs.Ytmjfkjdfmpileaa.M
open Go.RowKit
/-- a state handed back that reads as s, whatever becomes of what was there -/
def StR (s : State) (w : World) (e : Ending) (w' : World) : Prop := ∃ v0 v1, e = .returned (.agg #[v0, v1]) ∧ repsS (List.range w.heap.size) w' (State.c 126 s) [v0, v1] ∧ Below w.heap.size w w'
def sortTo (l : List Run) (k : Nat) : List Run := (l.take k).foldl putL []
theorem sortTo_zero (l : List Run) : sortTo l 0 = [] := rfl
theorem sortTo_succ {l : List Run} {k : Nat} (h : k < l.length) : sortTo l (k + 1) = putL (sortTo l k) l[k] := by
  unfold sortTo; rw [List.take_succ_eq_append_getElem h, List.foldl_append]; rfl
theorem sortTo_end (l : List Run) : sortTo l l.length = sortR l := by unfold sortTo sortR; rw [List.take_length]
theorem setR_length (r : Run) (R : List Run) : (setR r R).length = R.length := by simp [setR]
theorem putL_length {R : List Run} (h : AscR R) (r : Run) : (putL R r).length ≤ R.length + 1 := by
  rw [putL_eq h]
  cases runOf R r.Name with
  | some _ => simp [setR_length]
  | none => simp [insR_length]
theorem sortTo_len (l : List Run) : ∀ k, (sortTo l k).length ≤ k
  | 0 => by simp [sortTo_zero]
  | k + 1 => by
    rcases Nat.lt_or_ge k l.length with h | h
    · rw [sortTo_succ h]
      have := putL_length (sortR_asc (l.take k)) l[k]
      have h2 := sortTo_len l k
      unfold sortTo at h2 ⊢
      unfold sortR at this
      omega
    · have e : sortTo l (k + 1) = sortTo l k := by unfold sortTo; rw [List.take_of_length_le (by omega), List.take_of_length_le (by omega)]
      rw [e]; have := sortTo_len l k; omega
set_option maxRecDepth 100000 in
set_option maxHeartbeats 4000000 in
theorem l3State_calls {tR ts : Nat} (roots : List ByteArray) (l : List Run) (v u : Value) (w : World) (hv : rep w (strsT ts roots) v) (h : rep w (RunsT tR l) u) (hl : l.length ≤ 100000) (hr : roots.length ≤ 1000000) (hT : ∀ r ∈ l, r.Texts.length ≤ 1000000) :
    Calls Try.prog 61 #[v, u] w (StR ⟨roots, sortR l⟩ w) := by
  obtain ⟨A, c, rfl, _, _⟩ := rep_len hv
  obtain ⟨B, d, rfl, _, _⟩ := rep_len h
  replace h := Asd.mk h
  replace hv := Asd.mk hv
  go_enter Try.func61, Try.ntmps61
  go_upto_region 1 with (fail)
  obtain ⟨X, eX⟩ : ∃ X : World, X = w.alloc (.cells #[.slice none 0 0, .slice none 0 0] 60) := ⟨_, rfl⟩
  rw [← eX]
  have hbX := Asd.mk (show Below w.heap.size w X from eX ▸ below_al (Below.refl _ _) _)
  have hX := Asd.mk (show X.heap[w.heap.size]? = _ from eX ▸ heap_alloc_new _ _)
  have zX : w.heap.size < X.heap.size := by rw [eX]; simp
  clear eX
  go_wp2_with (at_builtin; refine appNew rfl rfl rfl rfl rfl (hv.out.below hbX.out) hr ?_)
  intro v1 w1 hL1 hb1 hz1
  obtain ⟨B1, d1, rfl, _, _⟩ := hL1.slice
  go_upto_region 2 with (fail)
  have hbX2 := Asd.mk (show Below w.heap.size w (w1.alloc (.cells #[.slice B1 roots.length d1, .slice none 0 0] 60)) from below_al (below_st hbX.out hb1) _)
  have g2 := Asd.mk (heap_alloc_new w1 (.cells #[.slice B1 roots.length d1, .slice none 0 0] 60))
  have gO := Asd.mk ((below_al hb1 (.cells #[.slice B1 roots.length d1, .slice none 0 0] 60)).block _ zX |>.trans hX.out)
  have hL2 := Asd.mk (show ∃ F, own (w1.alloc (.cells #[.slice B1 roots.length d1, .slice none 0 0] 60)) (strsT 9 roots) (.slice B1 roots.length d1) F ∧ ∀ b ∈ F, b ≠ w1.heap.size ∧ w.heap.size + 1 ≤ b from by
    obtain ⟨F, f1, f2, f3⟩ := hL1
    exact ⟨F, f1.below (below_al (Below.refl _ _) _), fun b hb => by have := f1.lt b hb; have := f3 b hb; omega⟩)
  have hzz : w1.heap.size < (w1.alloc (.cells #[.slice B1 roots.length d1, .slice none 0 0] 60)).heap.size := by simp
  obtain ⟨X2, eX⟩ : ∃ X2 : World, X2 = w1.alloc (.cells #[.slice B1 roots.length d1, .slice none 0 0] 60) := ⟨_, rfl⟩
  rw [← eX] at hbX2 g2 gO hL2 hzz ⊢
  clear eX hb1 hL1
  obtain ⟨ob, hob⟩ : ∃ ob, ob = w1.heap.size := ⟨_, rfl⟩
  rw [← hob] at g2 hzz hL2 ⊢
  have zo : X.heap.size < ob := by omega
  clear hob hz1
  go_wp2
  go_loopw [6] (fun i wr => ∃ (k : Nat) (rv : Value), k ≤ l.length ∧ i = .int .i64 k ∧ wr.heap[ob]? = some (.cells #[.slice B1 roots.length d1, rv] 60 (0, 0)) ∧ RowN (ob :: List.range (w.heap.size + 1)) X2.heap.size wr 126 7 (sortTo l k).length ((sortTo l k).flatMap Run.c) rv ∧ MFr [ob] X2 wr) (fun i _ => l.length - (intOf i).toNat)
  case atStart => exact ⟨0, _, by omega, rfl, g2.out, RowN.nil _ _ _ _ _, MFr.refl _ _⟩
  case round =>
    obtain ⟨k, rv, hk, rfl, gr, hR, hm⟩ := hrel
    have hbr := Asd.mk (MFr.upon hm hbX2.out (Nat.le_refl _) (fun b hb => by simp at hb; omega))
    have hzr := hm.size
    by_cases hlt : k < l.length
    · obtain ⟨a, c', v6, he, k0, k1, k2, k3, k4, k5, k6, hk6, hkr⟩ := Run.elem h.out hlt
      cases he
      obtain ⟨Ct, et, rfl, _, _⟩ := rep_len hk6
      have e1 := Asd.mk (sortTo_succ hlt)
      have hll := sortTo_len l k
      have htl := hT l[k] (List.getElem_mem hlt)
      obtain ⟨acc, hacc⟩ : ∃ acc, sortTo l k = acc := ⟨_, rfl⟩
      rw [hacc] at hR e1 hll
      clear hacc hk6
      obtain ⟨Ar, dr, rfl, _⟩ := hR.slice
      have hkr2 := Asd.mk (hkr.below hbr.out)
      clear hkr
      have q0 := cell_below hbr.out k0
      have q1 := cell_below hbr.out k1
      have q2 := cell_below hbr.out k2
      have q3 := cell_below hbr.out k3
      have q4 := cell_below hbr.out k4
      have q5 := cell_below hbr.out k5
      have q6 := cell_below hbr.out k6
      clear k0 k1 k2 k3 k4 k5 k6
      have qr := cellOf gr (i := 1) rfl
      have hRs := Asd.mk (show repS (ob :: List.range (w.heap.size + 1)) wr (RunsT 126 acc) (.slice Ar acc.length dr) from hR.repS (fun b hb => by have := hR.lo b hb; simp; omega))
      replace gr := Asd.mk gr
      replace hm := Asd.mk hm
      have hlo := Asd.mk hR.lo
      clear hR
      go_wp2_with fail
      refine wp_region_G (last := 8) (S := fun Z => Z.cell? ⟨ob, 1, none⟩ = some (.slice Ar acc.length dr) ∧ Z.cell? (a.add (k * 7)) = some (.string l[k].Name) ∧ Z.cell? ⟨(a.add (k * 7)).block, (a.add (k * 7)).off + 1, none⟩ = some (.bool l[k].Over) ∧ Z.cell? ⟨(a.add (k * 7)).block, (a.add (k * 7)).off + 2, none⟩ = some (.bool l[k].Fail) ∧ Z.cell? ⟨(a.add (k * 7)).block, (a.add (k * 7)).off + 3, none⟩ = some (.string l[k].Text) ∧ Z.cell? ⟨(a.add (k * 7)).block, (a.add (k * 7)).off + 4, none⟩ = some (.int .i64 l[k].At) ∧ Z.cell? ⟨(a.add (k * 7)).block, (a.add (k * 7)).off + 5, none⟩ = some (.int .i64 l[k].Visits) ∧ Z.cell? ⟨(a.add (k * 7)).block, (a.add (k * 7)).off + 6, none⟩ = some (.slice Ct l[k].Texts.length et)) (by kernel_rfl) ?_
      have hH : wr.drew.cell? ⟨ob, 1, none⟩ = some (.slice Ar acc.length dr) ∧ wr.drew.cell? (a.add (k * 7)) = some (.string l[k].Name) ∧ wr.drew.cell? ⟨(a.add (k * 7)).block, (a.add (k * 7)).off + 1, none⟩ = some (.bool l[k].Over) ∧ wr.drew.cell? ⟨(a.add (k * 7)).block, (a.add (k * 7)).off + 2, none⟩ = some (.bool l[k].Fail) ∧ wr.drew.cell? ⟨(a.add (k * 7)).block, (a.add (k * 7)).off + 3, none⟩ = some (.string l[k].Text) ∧ wr.drew.cell? ⟨(a.add (k * 7)).block, (a.add (k * 7)).off + 4, none⟩ = some (.int .i64 l[k].At) ∧ wr.drew.cell? ⟨(a.add (k * 7)).block, (a.add (k * 7)).off + 5, none⟩ = some (.int .i64 l[k].Visits) ∧ wr.drew.cell? ⟨(a.add (k * 7)).block, (a.add (k * 7)).off + 6, none⟩ = some (.slice Ct l[k].Texts.length et) := ⟨qr, q0, q1, q2, q3, q4, q5, q6⟩
      ((refine wpG_take (i := 0) (v := ?_) rfl rfl (by kernel_rfl) (by kernel_rfl) (by kernel_rfl) (by kernel_rfl) (fun _ _ _ h => h) (Or.inl ⟨by rfl, ?_⟩) (by assumption) ?_; rotate_left; (next => ((intro X hX; (try dsimp only at hX); go_simp); try with_reducible rfl))); (try simp only [Act.put, List.setIfInBounds_toArray, List.set_cons_zero, List.set_cons_succ]); (refine wpG_take (i := 1) (v := ?_) rfl rfl (by kernel_rfl) (by kernel_rfl) (by kernel_rfl) (by kernel_rfl) (fun _ _ _ h => h) (Or.inl ⟨by rfl, ?_⟩) (by assumption) ?_; rotate_left; (next => ((intro X hX; (try dsimp only at hX); go_simp); try with_reducible rfl))); (try simp only [Act.put, List.setIfInBounds_toArray, List.set_cons_zero, List.set_cons_succ]); (refine wpG_take (i := 2) (v := ?_) rfl rfl (by kernel_rfl) (by kernel_rfl) (by kernel_rfl) (by kernel_rfl) (fun _ _ _ h => h) (Or.inl ⟨by rfl, ?_⟩) (by assumption) ?_; rotate_left; (next => ((intro X hX; (try dsimp only at hX); go_simp); try with_reducible rfl))); (try simp only [Act.put, List.setIfInBounds_toArray, List.set_cons_zero, List.set_cons_succ]); (refine wpG_take (i := 3) (v := ?_) rfl rfl (by kernel_rfl) (by kernel_rfl) (by kernel_rfl) (by kernel_rfl) (fun _ _ _ h => h) (Or.inl ⟨by rfl, ?_⟩) (by assumption) ?_; rotate_left; (next => ((intro X hX; (try dsimp only at hX); go_simp); try with_reducible rfl))); (try simp only [Act.put, List.setIfInBounds_toArray, List.set_cons_zero, List.set_cons_succ]); (refine wpG_take (i := 4) (v := ?_) rfl rfl (by kernel_rfl) (by kernel_rfl) (by kernel_rfl) (by kernel_rfl) (fun _ _ _ h => h) (Or.inl ⟨by rfl, ?_⟩) (by assumption) ?_; rotate_left; (next => ((intro X hX; (try dsimp only at hX); go_simp); try with_reducible rfl))); (try simp only [Act.put, List.setIfInBounds_toArray, List.set_cons_zero, List.set_cons_succ]); (refine wpG_take (i := 5) (v := ?_) rfl rfl (by kernel_rfl) (by kernel_rfl) (by kernel_rfl) (by kernel_rfl) (fun _ _ _ h => h) (Or.inl ⟨by rfl, ?_⟩) (by assumption) ?_; rotate_left; (next => ((intro X hX; (try dsimp only at hX); go_simp); try with_reducible rfl))); (try simp only [Act.put, List.setIfInBounds_toArray, List.set_cons_zero, List.set_cons_succ]))
      (refine wpG_one (i := 6) (by kernel_rfl) rfl (fun K hK => ?_))
      go_simp
      refine (l4Put_calls (N := (ob :: List.range (w.heap.size + 1))) acc l[k] _ _ (hRs.out.later (by repeat (first | (with_reducible exact Below.refl _ _) | (with_reducible exact Below.refl _ _) | (with_reducible refine below_al ?_ _) | (with_reducible refine below_dr ?_ _) | (with_reducible refine below_d1 ?_) | ((with_reducible refine Below.setCell ?_ ?_ _); rotate_left; (next => first | (simp; done) | (simp; omega) | omega))))) (fun b hb => by have := hlo.out b hb; simp; omega) (hkr2.out.below (by repeat (first | (with_reducible exact Below.refl _ _) | (with_reducible exact Below.refl _ _) | (with_reducible refine below_al ?_ _) | (with_reducible refine below_dr ?_ _) | (with_reducible refine below_d1 ?_) | ((with_reducible refine Below.setCell ?_ ?_ _); rotate_left; (next => first | (simp; done) | (simp; omega) | omega))))) (fun b hb => by simp at hb; simp; omega) (by omega) htl).mono ?_
      rintro e w7 ⟨v7, rfl, hR7, hb7⟩
      obtain ⟨A7, d7, rfl, _⟩ := hR7.slice
      have hb8 := Asd.mk (show Below wr.heap.size wr w7 from below_st (by repeat (first | (with_reducible exact Below.refl _ _) | (with_reducible exact Below.refl _ _) | (with_reducible refine below_al ?_ _) | (with_reducible refine below_dr ?_ _) | (with_reducible refine below_d1 ?_) | ((with_reducible refine Below.setCell ?_ ?_ _); rotate_left; (next => first | (simp; done) | (simp; omega) | omega)))) hb7)
      clear hb7
      have p1 := cell_below hb8.out qr
      have p7 := (hb8.out.block ob (by omega)).trans gr.out
      have pf := frozenOf p7 1
      replace p7 := Asd.mk p7
      replace hR7 := Asd.mk hR7
      refine hK.out _ _ (fun _ => ⟨p1, cell_below hb8.out q0, cell_below hb8.out q1, cell_below hb8.out q2, cell_below hb8.out q3, cell_below hb8.out q4, cell_below hb8.out q5, cell_below hb8.out q6⟩) ?_
      clear hK K hH
      (try simp only [Act.put, List.setIfInBounds_toArray, List.set_cons_zero, List.set_cons_succ])
      have hH : w7.cell? ⟨ob, 1, none⟩ = some (.slice Ar acc.length dr) ∧ w7.cell? (a.add (k * 7)) = some (.string l[k].Name) ∧ w7.cell? ⟨(a.add (k * 7)).block, (a.add (k * 7)).off + 1, none⟩ = some (.bool l[k].Over) ∧ w7.cell? ⟨(a.add (k * 7)).block, (a.add (k * 7)).off + 2, none⟩ = some (.bool l[k].Fail) ∧ w7.cell? ⟨(a.add (k * 7)).block, (a.add (k * 7)).off + 3, none⟩ = some (.string l[k].Text) ∧ w7.cell? ⟨(a.add (k * 7)).block, (a.add (k * 7)).off + 4, none⟩ = some (.int .i64 l[k].At) ∧ w7.cell? ⟨(a.add (k * 7)).block, (a.add (k * 7)).off + 5, none⟩ = some (.int .i64 l[k].Visits) ∧ w7.cell? ⟨(a.add (k * 7)).block, (a.add (k * 7)).off + 6, none⟩ = some (.slice Ct l[k].Texts.length et) := ⟨p1, cell_below hb8.out q0, cell_below hb8.out q1, cell_below hb8.out q2, cell_below hb8.out q3, cell_below hb8.out q4, cell_below hb8.out q5, cell_below hb8.out q6⟩
      ((refine wpG_take (i := 7) (v := ?_) rfl rfl (by kernel_rfl) (by kernel_rfl) (by kernel_rfl) (by kernel_rfl) (fun _ _ _ h => h) (Or.inl ⟨by rfl, ?_⟩) (by assumption) ?_; rotate_left; (next => ((intro X hX; (try dsimp only at hX); go_simp); try with_reducible rfl))); (try simp only [Act.put, List.setIfInBounds_toArray, List.set_cons_zero, List.set_cons_succ]))
      (refine wpG_one (i := 8) (by kernel_rfl) rfl (fun K hK => ?_))
      go_simp
      refine hK.out _ _ (fun h => absurd rfl h) ?_
      clear hK K hH
      refine wpG_done (by kernel_rfl) ?_ _
      go_wp2
      go_roundw
      case rel =>
        refine ⟨k + 1, .slice A7 (putL acc l[k]).length d7, by omega, by go_num, by simpa using heap_set1 p7.out 1 (.slice A7 (putL acc l[k]).length d7), ?_, (hm.out.trans (MFr.of_below hb8.out)).trans (MFr.of_set _ (by simp))⟩
        rw [e1.out]
        exact (hR7.out.mono (by simp; omega)).go ((MFr.of_set (F := [ob]) _ (by simp)).mono (fun b hb => by simp at hb; simp [hb])) (fun b hb => by have := hR7.out.lo b hb; simp at this; simp; omega)
      case measure => simp [intOf]; omega
    · obtain rfl : k = l.length := by omega
      have e1 := Asd.mk (sortTo_end l)
      obtain ⟨Ar, dr, rfl, _⟩ := hR.slice
      have q0 := cellOf gr (i := 0) rfl
      have q1 := cellOf gr (i := 1) rfl
      have p7 := (hm.block _ (by omega) (by simp; omega)).trans gO.out
      have o0 := cellOf p7 (i := 0) rfl
      have o1 := cellOf p7 (i := 1) rfl
      have pf0 := frozenOf p7 0
      have pf1 := frozenOf p7 1
      replace p7 := Asd.mk p7
      have hroots := Asd.mk (show repS (ob :: List.range (w.heap.size + 1)) wr (strsT 9 roots) (.slice B1 roots.length d1) from by
        obtain ⟨F, f1, f2⟩ := hL2.out
        exact repS.of_own (hm.own f1 (fun b hb => by simpa using (f2 b hb).1)) (fun b hb => by simpa using f2 b hb))
      have hruns := Asd.mk (show repS (ob :: List.range (w.heap.size + 1)) wr (RunsT 126 (sortTo l l.length)) (.slice Ar (sortTo l l.length).length dr) from hR.repS (fun b hb => by have := hR.lo b hb; simp; omega))
      replace hm := Asd.mk hm
      clear hR gr
      go_wp2
      refine bodyPost_ret (v := .agg #[.slice B1 roots.length d1, .slice Ar (sortTo l l.length).length dr]) (by simp [results, Try.results61, go_sem, *]) rfl ?_
      refine ⟨_, _, rfl, ?_, by repeat (first | (with_reducible exact Below.refl _ _) | (with_reducible exact hbr.out) | (with_reducible refine below_al ?_ _) | (with_reducible refine below_dr ?_ _) | (with_reducible refine below_d1 ?_) | ((with_reducible refine Below.setCell ?_ ?_ _); rotate_left; (next => first | (simp; done) | (simp; omega) | omega)))⟩
      rw [← e1.out]
      intro w2 h2
      have h3 := (MFr.trans (MFr.of_set _ (by simp)) (MFr.of_set _ (by simp))).trans (h2.mono (G := ob :: List.range (w.heap.size + 1)) (fun b hb => by simp at hb ⊢; omega))
      exact State.rmk ⟨roots, sortTo l l.length⟩ (hroots.out _ h3) (hruns.out _ h3)
theorem mem_wantsU {W : Web} {r : Run} : ∀ (qs : List ByteArray) (l : List Run), r ∈ wantsU W l qs → r ∈ l ∨ ∃ q, r = newRun q
  | [], l, h => .inl h
  | q :: qs, l, h => by
    rcases mem_wantsU qs (wantU W l q) h with h1 | h1
    · unfold wantU at h1
      split at h1
      · rcases List.mem_append.1 h1 with h2 | h2
        · exact .inl h2
        · exact .inr ⟨q, by simpa using h2⟩
      · exact .inl h1
    · exact .inr h1
theorem StR.zero {W : Web} {roots : List ByteArray} {w w' : World} (e1 : startS W roots = ⟨[], []⟩) (hb : Below w.heap.size w w') : StR (startS W roots) w (.returned (.agg #[.slice none 0 0, .slice none 0 0])) w' := by
  rw [e1]
  exact ⟨_, _, rfl, fun w2 _ => State.rmk ⟨[], []⟩ (own_nil _ _ _).rep (own_nil _ _ _).rep, hb⟩
set_option maxRecDepth 100000 in
set_option maxHeartbeats 2000000 in
theorem sStart_calls {tN tS tC ts : Nat} (W : Web) (roots : List ByteArray) (v : Value) (w : World) {vs : List Value} (h : reps w (W.c tN tS tC) vs) (hv : rep w (strsT ts roots) v) (hz : W.Sm) :
    Calls Try.prog 24 #[.agg vs.toArray, v] w (StR (startS W roots) w) := by
  obtain ⟨v0, rfl, h0⟩ := Web.ropen h
  obtain ⟨A, c, rfl, _, _⟩ := rep_len h0
  obtain ⟨B, d, rfl, _, _⟩ := rep_len hv
  clear h
  replace h0 := Asd.mk h0
  replace hv := Asd.mk hv
  have HB := Asd.mk (below_al (below_al (Below.refl w.heap.size w) (.cells #[.slice A W.Nodes.length c] 28)) (.cells #[.slice none 0 0, .slice none 0 0] 60))
  by_cases q1 : checkWeb W = 0
  rotate_left
  · have e1 := Asd.mk (show startS W roots = ⟨[], []⟩ by rw [startS, if_neg (by simp [q1])])
    obtain ⟨n, hn⟩ : ∃ n, checkWeb W = n := ⟨_, rfl⟩
    have q2 : decide (n = 0) = false := by simp [← hn, q1]
    go_enter Try.func24, Try.ntmps24
    go_wp2_with fail
    refine (sCheckWeb_calls W _ (Web.rmk W (h0.out.below HB.out)) hz).mono ?_
    rintro e w1 ⟨rfl, hb⟩
    rw [hn]
    replace q1 : n ≠ 0 := hn ▸ q1
    clear hn
    obtain ⟨hcx, hfx⟩ := bcell hb
    have hzz : w.heap.size + 1 < w1.heap.size := by have := hb.size; simp at this; omega
    have HW := Asd.mk (below_st HB.out hb)
    clear hb
    go_wp2
    refine bodyPost_ret (v := .agg #[.slice none 0 0, .slice none 0 0]) (by simp [results, Try.results24, go_sem, *]) rfl ?_
    exact StR.zero e1.out (by repeat (first | (with_reducible exact Below.refl _ _) | (with_reducible exact HW.out) | (with_reducible refine below_al ?_ _) | (with_reducible refine below_dr ?_ _) | (with_reducible refine below_d1 ?_) | ((with_reducible refine Below.setCell ?_ ?_ _); rotate_left; (next => first | (simp; done) | (simp; omega) | omega))))
  by_cases q2 : rootsOk roots = true
  rotate_left
  · have e1 := Asd.mk (show startS W roots = ⟨[], []⟩ by rw [startS, if_neg (by simp [q2])])
    replace q2 := Bool.eq_false_iff.2 q2
    go_enter Try.func24, Try.ntmps24
    go_wp2_with fail
    refine (sCheckWeb_calls W _ (Web.rmk W (h0.out.below HB.out)) hz).mono ?_
    rintro e w1 ⟨rfl, hb⟩
    rw [q1]
    obtain ⟨hcx, hfx⟩ := bcell hb
    have hzz : w.heap.size + 1 < w1.heap.size := by have := hb.size; simp at this; omega
    have HW := Asd.mk (below_st HB.out hb)
    clear hb
    go_wp2_with fail
    refine (l3RootsOk_calls roots _ _ (hv.out.below HW.out)).mono ?_
    rintro e w2 ⟨rfl, hb⟩
    obtain ⟨hcx2, hfx2⟩ := bcell hb
    have hzz2 : w.heap.size + 1 < w2.heap.size := by have := hb.size; omega
    have HW2 := Asd.mk (below_st HW.out hb)
    clear hb
    go_wp2
    refine bodyPost_ret (v := .agg #[.slice none 0 0, .slice none 0 0]) (by simp [results, Try.results24, go_sem, *]) rfl ?_
    exact StR.zero e1.out (by repeat (first | (with_reducible exact Below.refl _ _) | (with_reducible exact HW2.out) | (with_reducible refine below_al ?_ _) | (with_reducible refine below_dr ?_ _) | (with_reducible refine below_d1 ?_) | ((with_reducible refine Below.setCell ?_ ?_ _); rotate_left; (next => first | (simp; done) | (simp; omega) | omega))))
  have e1 := Asd.mk (show startS W roots = ⟨roots, sortR (wantsU W [] roots)⟩ by rw [startS, if_pos ⟨q1, q2⟩, sort_begin])
  obtain ⟨hl, _, hA2, _⟩ := checkWeb_ok q1
  have hrl := rootsOk_le q2
  go_enter Try.func24, Try.ntmps24
  go_wp2_with fail
  refine (sCheckWeb_calls W _ (Web.rmk W (h0.out.below HB.out)) hz).mono ?_
  rintro e w1 ⟨rfl, hb⟩
  rw [q1]
  obtain ⟨hcx, hfx⟩ := bcell hb
  have hzz : w.heap.size + 1 < w1.heap.size := by have := hb.size; simp at this; omega
  have HW := Asd.mk (below_st HB.out hb)
  clear hb
  go_wp2_with fail
  refine (l3RootsOk_calls roots _ _ (hv.out.below HW.out)).mono ?_
  rintro e w2 ⟨rfl, hb⟩
  obtain ⟨hcx2, hfx2⟩ := bcell hb
  have hzz2 : w.heap.size + 1 < w2.heap.size := by have := hb.size; omega
  have HW2 := Asd.mk (below_st HW.out hb)
  clear hb
  have c0 : w2.cell? ⟨w.heap.size, 0, none⟩ = some (.slice A W.Nodes.length c) := by
    rw [hcx2 _ _ (by omega), hcx _ _ (by simp; omega)]; go_simp
  have c1 : w2.cell? ⟨w.heap.size + 1, 0, none⟩ = some (.slice none 0 0) := by
    rw [hcx2 _ _ (by omega), hcx _ _ (by simp)]; go_simp
  have c2 : w2.cell? ⟨w.heap.size + 1, 1, none⟩ = some (.slice none 0 0) := by
    rw [hcx2 _ _ (by omega), hcx _ _ (by simp)]; go_simp
  have f1 : w2.frozen? ⟨w.heap.size + 1, 0, none⟩ = false := by
    rw [hfx2 _ _ (by omega), hfx _ _ (by simp)]; go_simp
  have f2 : w2.frozen? ⟨w.heap.size + 1, 1, none⟩ = false := by
    rw [hfx2 _ _ (by omega), hfx _ _ (by simp)]; go_simp
  clear hcx hfx hcx2 hfx2
  go_wp2_with fail
  refine (want3_calls (lo := w2.heap.size) W [] roots w2.heap.size A B c d (.slice none 0 0) _ ⟨heap_alloc_new _ _, RowN.nil _ _ _ _ _, fun k hk => by cases hk⟩ (repS.of (h0.out.below HW2.out) (by repeat (first | (with_reducible exact Below.refl _ _) | (with_reducible exact Below.refl _ _) | (with_reducible refine below_al ?_ _) | (with_reducible refine below_dr ?_ _) | (with_reducible refine below_d1 ?_) | ((with_reducible refine Below.setCell ?_ ?_ _); rotate_left; (next => first | (simp; done) | (simp; omega) | omega)))) (fun b hb => by simp [Value.ownBlock] at hb; omega)) (repS.of (hv.out.below HW2.out) (by repeat (first | (with_reducible exact Below.refl _ _) | (with_reducible exact Below.refl _ _) | (with_reducible refine below_al ?_ _) | (with_reducible refine below_dr ?_ _) | (with_reducible refine below_d1 ?_) | ((with_reducible refine Below.setCell ?_ ?_ _); rotate_left; (next => first | (simp; done) | (simp; omega) | omega)))) (fun b hb => by simp [Value.ownBlock] at hb; omega)) (by simp) (by omega) (by simp)).mono ?_
  rintro e w3 ⟨rfl, rv, hK, hm, hrv⟩
  have HW3 := Asd.mk (MFr.upon hm (show Below w.heap.size w _ from by repeat (first | (with_reducible exact Below.refl _ _) | (with_reducible exact HW2.out) | (with_reducible refine below_al ?_ _) | (with_reducible refine below_dr ?_ _) | (with_reducible refine below_d1 ?_) | ((with_reducible refine Below.setCell ?_ ?_ _); rotate_left; (next => first | (simp; done) | (simp; omega) | omega)))) (Nat.le_refl _) (fun b hb => by simp [Value.ownBlock] at hb; have := HW2.out.size; omega))
  have hb3 := MFr.upon hm (show Below w2.heap.size w2 _ from by repeat (first | (with_reducible exact Below.refl _ _) | (with_reducible exact Below.refl _ _) | (with_reducible refine below_al ?_ _) | (with_reducible refine below_dr ?_ _) | (with_reducible refine below_d1 ?_) | ((with_reducible refine Below.setCell ?_ ?_ _); rotate_left; (next => first | (simp; done) | (simp; omega) | omega)))) (Nat.le_refl _) (fun b hb => by simp [Value.ownBlock] at hb; omega)
  have hzz3 := hb3.size
  replace c1 := cell_below hb3 c1
  replace c2 := cell_below hb3 c2
  replace f1 := (hb3.frozen (p := ⟨w.heap.size + 1, 0, none⟩) (by simp; omega)).trans f1
  replace f2 := (hb3.frozen (p := ⟨w.heap.size + 1, 1, none⟩) (by simp; omega)).trans f2
  clear c0 hb3 hm hrv
  obtain ⟨Ar, dr, rfl, _⟩ := hK.row.slice
  have g1 := cellOf hK.cells (i := 1) rfl
  have hruns := Asd.mk (show rep w3 (RunsT 126 (wantsU W [] roots)) _ from hK.row.row.rep)
  have hlr : (wantsU W [] roots).length ≤ 100000 := by
    have := wuTo_len W [] roots roots.length
    rw [wuTo_end] at this
    simp at this; omega
  clear hK
  go_wp2_with fail
  refine (l3State_calls roots (wantsU W [] roots) _ _ _ (hv.out.below (by repeat (first | (with_reducible exact Below.refl _ _) | (with_reducible exact HW3.out) | (with_reducible refine below_al ?_ _) | (with_reducible refine below_dr ?_ _) | (with_reducible refine below_d1 ?_) | ((with_reducible refine Below.setCell ?_ ?_ _); rotate_left; (next => first | (simp; done) | (simp; omega) | omega))))) (hruns.out.below (by repeat (first | (with_reducible exact Below.refl _ _) | (with_reducible exact Below.refl _ _) | (with_reducible refine below_al ?_ _) | (with_reducible refine below_dr ?_ _) | (with_reducible refine below_d1 ?_) | ((with_reducible refine Below.setCell ?_ ?_ _); rotate_left; (next => first | (simp; done) | (simp; omega) | omega))))) hlr (by omega) (fun r hr => by
    rcases mem_wantsU _ _ hr with h | ⟨q, rfl⟩
    · cases h
    · simp [newRun])).mono ?_
  rintro e w4 ⟨v0, v1, rfl, hs, hb4⟩
  obtain ⟨_, _, he, p0, p1⟩ := State.ropen hs.reps
  obtain ⟨A0, d0, rfl, _, _⟩ := rep_len p0
  obtain ⟨A1, d1, rfl, _, _⟩ := rep_len p1
  cases he
  have hb5 : Below w3.heap.size w3 w4 := below_st (by repeat (first | (with_reducible exact Below.refl _ _) | (with_reducible exact Below.refl _ _) | (with_reducible refine below_al ?_ _) | (with_reducible refine below_dr ?_ _) | (with_reducible refine below_d1 ?_) | ((with_reducible refine Below.setCell ?_ ?_ _); rotate_left; (next => first | (simp; done) | (simp; omega) | omega)))) hb4
  have HW4 := Asd.mk (below_st HW3.out hb5)
  have hs4 := Asd.mk (hs.sub (N := List.range w3.heap.size) (fun b hb => by simp at hb ⊢; omega))
  replace c1 := cell_below hb5 c1
  replace c2 := cell_below hb5 c2
  replace f1 := (hb5.frozen (p := ⟨w.heap.size + 1, 0, none⟩) (by simp; omega)).trans f1
  replace f2 := (hb5.frozen (p := ⟨w.heap.size + 1, 1, none⟩) (by simp; omega)).trans f2
  have hzz5 := hb5.size
  clear hb4 hb5 hs p0 p1 g1
  dsimp only
  go_wp2
  refine bodyPost_ret (v := .agg #[.slice A0 roots.length d0, .slice A1 (sortR (wantsU W [] roots)).length d1]) (by simp [results, Try.results24, go_sem, *]) rfl ?_
  rw [e1.out]
  refine ⟨_, _, rfl, fun w2 h2 => hs4.out w2 ?_, by repeat (first | (with_reducible exact Below.refl _ _) | (with_reducible exact HW4.out) | (with_reducible refine below_al ?_ _) | (with_reducible refine below_dr ?_ _) | (with_reducible refine below_d1 ?_) | ((with_reducible refine Below.setCell ?_ ?_ _); rotate_left; (next => first | (simp; done) | (simp; omega) | omega)))⟩
  exact (MFr.trans (MFr.of_set _ (by simp; omega)) (MFr.of_set _ (by simp; omega))).trans (h2.mono (fun b hb => by simp at hb ⊢; omega))
end Go.Proofs.Ytmjfkjdfmpileaa.M
end
section
set_option linter.unusedVariables false
set_option linter.unusedSimpArgs false
namespace Go.Proofs.Ytmjfkjdfmpileaa.M
open Go.RowKit
theorem runs_cnt (t : Nat) (b : Run → Nat) (xs : List Run) (h : ∀ r ∈ xs, r.Texts.length ≤ b r) : cnt (RunsT t xs) ≤ 6 * (xs.length + (xs.map b).sum) := by
  refine cnts_flat Run.c b 6 (by omega) xs (fun r hr => ?_)
  have h1 := h r hr
  have e : cnts (Run.c r) = 6 + cnts (r.Texts.flatMap strC) := by simp [Run.c, cnts, cnt, strsT, tl]; omega
  have h2 : cnts (r.Texts.flatMap strC) ≤ 1 * (r.Texts.length + (r.Texts.map (fun _ => 0)).sum) := cnts_flat strC (fun _ => 0) 1 (by omega) r.Texts (fun x _ => by simp [strC, cnts, cnt])
  have e3 : (r.Texts.map (fun _ => 0)).sum = 0 := by
    generalize r.Texts = l
    induction l with
    | nil => rfl
    | cons x l ih => simp [ih]
  rw [e3] at h2
  rw [e]
  omega
theorem startS_cnt (t : Nat) (W : Web) (roots : List ByteArray) : cntl ((startS W roots).c t) ≤ 6 * W.bk + bkS roots := by
  unfold startS
  split
  · rename_i h
    have h1 := strs_cnt 9 roots
    have h2 := runs_cnt t (fun _ => 0) (begin_ W roots) (fun r hr => by obtain ⟨q, rfl, _⟩ := begin_fresh hr; simp [newRun])
    have h3 := begin_len h.1 roots
    have e3 : ((begin_ W roots).map (fun _ => 0)).sum = 0 := by
      generalize begin_ W roots = l
      induction l with
      | nil => rfl
      | cons x l ih => simp [ih]
    rw [e3] at h2
    have h4 : W.Nodes.length ≤ W.bk := by unfold Web.bk Node.bs bsOf; omega
    show cnt (strsT 9 roots) + (cnt (RunsT t (begin_ W roots)) + 0) ≤ _
    omega
  · show cnt (strsT 9 []) + (cnt (RunsT t []) + 0) ≤ _
    simp [cnt, strsT, RunsT, tl, cnts]
end Go.Proofs.Ytmjfkjdfmpileaa.M
end
section
set_option linter.unusedVariables false
set_option linter.unusedSimpArgs false
namespace Go.Proofs.Ytmjfkjdfmpileaa.M
open Go.RowKit

set_option maxRecDepth 100000 in
set_option maxHeartbeats 4000000 in
theorem FnExactStart_calls {tNode0 tStep0 tCase0 ts1 : Nat} (x0 : Web) (x1 : List ByteArray) (w : World) {vs0 : List Value} (h0 : reps w (x0.c tNode0 tStep0 tCase0) vs0) (hz0 : x0.Zm) {v1 : Value} (h1 : rep w (strsT ts1 x1) v1) (hz1 : SmS x1) :
    Calls Try.prog 6 #[.agg vs0.toArray, v1] w fun e w' => e = .returned (.bool true) ∧ Below w.heap.size w w' := by
  have H0 := Asd.mk h0
  obtain ⟨u0_0, rfl, g0_0⟩ := Web.ropen h0
  obtain ⟨A0_0, C0_0, rfl, _, _⟩ := rep_len g0_0
  clear g0_0
  clear h0
  replace hz0 := Asd.mk hz0
  obtain ⟨A1, C1, rfl, _, _⟩ := rep_len h1
  replace h1 := Asd.mk h1
  have H1 := h1
  clear h1
  replace hz1 := Asd.mk hz1
  by_cases q0 : ((x0.bk : Nat) : Int) ≤ 1048576
  rotate_left
  · have e0 : szI (x0.bk) (1048576) = -1 := szI_no q0
    go_enter Try.func6, Try.ntmps6
    go_wp2_with fail
    refine (szWeb_calls x0 _ _ (H0.out.below (below_al (Below.refl _ _) _)) (by omega) (by omega) hz0.out).mono ?_
    rintro e w1 ⟨rfl, hb⟩
    have hF := Far.of_below hb
    have zs1 : w.heap.size + 1 ≤ w1.heap.size := by have := hF.size; (try simp at this); omega
    have c0_0 : w1.cell? ⟨w.heap.size, 0, none⟩ = some (.slice A0_0 x0.Nodes.length C0_0) := by rw [hF.cell (by first | (simp; done) | (simp; omega) | omega) (by omega)]; first | exact c0_0 | go_simp
    have z0 : w.heap.size < w1.heap.size := by omega
    have HB_1 := Asd.mk (Far.trans3 (below_al (Below.refl _ _) _) hF (by omega))
    clear hF hb
    go_wp2
    go_ret
    exact ⟨rfl, HB_1.out⟩
  have e0 : szI (x0.bk) (1048576) = 1048576 - (x0.bk : Nat) := szI_yes q0
  by_cases q1 : ((bkS x1 : Nat) : Int) ≤ 1048576 - (x0.bk : Nat)
  rotate_left
  · have e1 : szI (bkS x1) (1048576 - (x0.bk : Nat)) = -1 := szI_no q1
    go_enter Try.func6, Try.ntmps6
    go_wp2_with fail
    refine (szWeb_calls x0 _ _ (H0.out.below (below_al (Below.refl _ _) _)) (by omega) (by omega) hz0.out).mono ?_
    rintro e w1 ⟨rfl, hb⟩
    have hF := Far.of_below hb
    have zs1 : w.heap.size + 1 ≤ w1.heap.size := by have := hF.size; (try simp at this); omega
    have c0_0 : w1.cell? ⟨w.heap.size, 0, none⟩ = some (.slice A0_0 x0.Nodes.length C0_0) := by rw [hF.cell (by first | (simp; done) | (simp; omega) | omega) (by omega)]; first | exact c0_0 | go_simp
    have z0 : w.heap.size < w1.heap.size := by omega
    have HB_1 := Asd.mk (Far.trans3 (below_al (Below.refl _ _) _) hF (by omega))
    clear hF hb
    go_wp2_with fail
    refine (szStringS_calls x1 _ _ _ (H1.out.below (HB_1.out)) (by omega) (by omega) hz1.out).mono ?_
    rintro e w2 ⟨rfl, hb⟩
    have hF := Far.of_below hb
    have zs2 : w1.heap.size ≤ w2.heap.size := by have := hF.size; (try simp at this); omega
    replace c0_0 : w2.cell? ⟨w.heap.size, 0, none⟩ = some (.slice A0_0 x0.Nodes.length C0_0) := by rw [hF.cell (by first | (simp; done) | (simp; omega) | omega) (by omega)]; first | exact c0_0 | go_simp
    replace z0 : w.heap.size < w2.heap.size := by omega
    have HB_2 := Asd.mk (Far.trans3 (HB_1.out) hF (by omega))
    clear hF hb
    go_wp2
    go_ret
    exact ⟨rfl, HB_2.out⟩
  have e1 : szI (bkS x1) (1048576 - (x0.bk : Nat)) = 1048576 - (x0.bk : Nat) - (bkS x1 : Nat) := szI_yes q1
  obtain ⟨g, gx⟩ : ∃ g, startS x0 x1 = g := ⟨_, rfl⟩
  obtain ⟨KA0, ka0⟩ : ∃ K, 1 + cntl (x0.c 46 108 112) = K := ⟨_, rfl⟩
  have la0 : 1 ≤ KA0 := by omega
  obtain ⟨KA1, ka1⟩ : ∃ K, KA0 + cnt (strsT 9 x1) = K := ⟨_, rfl⟩
  have la1 : KA0 ≤ KA1 := by omega
  obtain ⟨KG0, kg0⟩ : ∃ K, 1 + cntl (g.c 126) = K := ⟨_, rfl⟩
  have lg0 : 1 ≤ KG0 := by omega
  have hc_ : cntl (x0.c 46 108 112) ≤ 6 * x0.bk := Web.cnt_le x0
  have hc2_ : cnt (strsT 9 x1) ≤ bkS x1 := strs_cnt _ x1
  have hg_ : cntl (g.c 126) ≤ 6 * x0.bk + bkS x1 := by rw [← gx]; exact startS_cnt _ x0 x1
  have hKA : KA1 ≤ 1000000000 := by omega
  have hKG : KG0 ≤ 1000000000 := by omega
  replace ka0 := Asd.mk ka0
  replace ka1 := Asd.mk ka1
  replace kg0 := Asd.mk kg0
  clear hc_
  go_enter Try.func6, Try.ntmps6
  go_wp2_with fail
  refine (szWeb_calls x0 _ _ (H0.out.below (below_al (Below.refl _ _) _)) (by omega) (by omega) hz0.out).mono ?_
  rintro e w1 ⟨rfl, hb⟩
  have hF := Far.of_below hb
  have zs1 : w.heap.size + 1 ≤ w1.heap.size := by have := hF.size; (try simp at this); omega
  have c0_0 : w1.cell? ⟨w.heap.size, 0, none⟩ = some (.slice A0_0 x0.Nodes.length C0_0) := by rw [hF.cell (by first | (simp; done) | (simp; omega) | omega) (by omega)]; first | exact c0_0 | go_simp
  have z0 : w.heap.size < w1.heap.size := by omega
  have HB_1 := Asd.mk (Far.trans3 (below_al (Below.refl _ _) _) hF (by omega))
  clear hF hb
  go_wp2_with fail
  refine (szStringS_calls x1 _ _ _ (H1.out.below (HB_1.out)) (by omega) (by omega) hz1.out).mono ?_
  rintro e w2 ⟨rfl, hb⟩
  have hF := Far.of_below hb
  have zs2 : w1.heap.size ≤ w2.heap.size := by have := hF.size; (try simp at this); omega
  replace c0_0 : w2.cell? ⟨w.heap.size, 0, none⟩ = some (.slice A0_0 x0.Nodes.length C0_0) := by rw [hF.cell (by first | (simp; done) | (simp; omega) | omega) (by omega)]; first | exact c0_0 | go_simp
  replace z0 : w.heap.size < w2.heap.size := by omega
  have HB_2 := Asd.mk (Far.trans3 (HB_1.out) hF (by omega))
  clear hF hb
  go_wp2_with fail
  refine (toWeb_calls x0 _ (H0.out.below (HB_2.out)) (by omega)).mono ?_
  rintro e w3 ⟨us, rfl, hM, hb⟩
  have hF := Far.of_below hb
  have I_s0 : Asd (Iv (w2.heap.size) w3.heap.size w3 (x0.c 46 108 112) us) := Asd.mk ((Iv.of_mades hM).mono (by simp) (Nat.le_refl _))
  obtain ⟨F_, o_, _, _⟩ := hM
  obtain ⟨v_0, G_0, rfl, p_0, rfl⟩ := Web.oopen o_
  obtain ⟨As0_0, Cs0_0, rfl, _, _⟩ := own_slice p_0
  clear o_ p_0
  have zs3 : w2.heap.size ≤ w3.heap.size := by have := hF.size; (try simp at this); omega
  replace c0_0 : w3.cell? ⟨w.heap.size, 0, none⟩ = some (.slice A0_0 x0.Nodes.length C0_0) := by rw [hF.cell (by first | (simp; done) | (simp; omega) | omega) (by omega)]; first | exact c0_0 | go_simp
  replace z0 : w.heap.size < w3.heap.size := by omega
  have HB_3 := Asd.mk (Far.trans3 (HB_2.out) hF (by omega))
  clear hF hb
  go_wp2_with fail
  refine (toStringS_calls x1 _ _ (H1.out.below (HB_3.out)) (by have hq_ := q1; unfold bkS bsOf at hq_; omega)).mono ?_
  rintro e w4 ⟨v_, rfl, hM, hb⟩
  have hF := Far.of_below hb
  have I_s1 : Asd (Iv (w3.heap.size) w4.heap.size w4 [strsT 9 x1] [v_]) := Asd.mk ((Iv.of_lie hM.lie).mono (by simp) (Nat.le_refl _))
  obtain ⟨F_, o_, _, _⟩ := hM
  obtain ⟨As1, Cs1, rfl, _, _⟩ := own_slice o_
  clear o_
  have zs4 : w3.heap.size ≤ w4.heap.size := by have := hF.size; (try simp at this); omega
  replace c0_0 : w4.cell? ⟨w.heap.size, 0, none⟩ = some (.slice A0_0 x0.Nodes.length C0_0) := by rw [hF.cell (by first | (simp; done) | (simp; omega) | omega) (by omega)]; first | exact c0_0 | go_simp
  replace z0 : w.heap.size < w4.heap.size := by omega
  have HB_4 := Asd.mk (Far.trans3 (HB_3.out) hF (by omega))
  replace I_s0 := Asd.mk ((I_s0.out.below (Below.refl _ _)).far hF (by omega))
  clear hF hb
  go_wp2_with fail
  refine (sStart_calls x0 x1 _ _ (I_s0.out.reps.below (Below.refl _ _)) (reps_one ((I_s1.out.reps.below (Below.refl _ _)))) (Web.zsm hz0.out)).mono ?_
  rw [gx]
  rintro e w5 ⟨v0_, v1_, rfl, hM, hb⟩
  have hF := Far.of_below hb
  have I_w0 : Asd (Rv (w4.heap.size) w5.heap.size w5 (g.c 126) _) := Asd.mk (Rv.mk hM.reps)
  obtain ⟨_, _, he_, p_0, p_1⟩ := State.ropen hM.reps
  obtain ⟨Aw0_0, Cw0_0, rfl, _, _⟩ := rep_len p_0
  obtain ⟨Aw0_1, Cw0_1, rfl, _, _⟩ := rep_len p_1
  cases he_
  clear hM p_0 p_1
  have zs5 : w4.heap.size ≤ w5.heap.size := by have := hF.size; (try simp at this); omega
  replace c0_0 : w5.cell? ⟨w.heap.size, 0, none⟩ = some (.slice A0_0 x0.Nodes.length C0_0) := by rw [hF.cell (by first | (simp; done) | (simp; omega) | omega) (by omega)]; first | exact c0_0 | go_simp
  replace z0 : w.heap.size < w5.heap.size := by omega
  have HB_5 := Asd.mk (Far.trans3 (HB_4.out) hF (by omega))
  replace I_s0 := Asd.mk ((I_s0.out.below (Below.refl _ _)).far hF (by omega))
  replace I_s1 := Asd.mk ((I_s1.out.below (Below.refl _ _)).far hF (by omega))
  clear hF hb
  clear I_s0
  clear I_s1
  go_wp2_with fail
  refine (toWeb_calls x0 _ (H0.out.below (below_al (HB_5.out) _)) (by omega)).mono ?_
  rintro e w6 ⟨us, rfl, hM, hb⟩
  have hF := Far.of_below hb
  have I_i0 : Asd (Iv (w5.heap.size + 1) w6.heap.size w6 (x0.c 46 108 112) us) := Asd.mk ((Iv.of_mades hM).mono (by simp) (Nat.le_refl _))
  obtain ⟨F_, o_, _, _⟩ := hM
  obtain ⟨v_0, G_0, rfl, p_0, rfl⟩ := Web.oopen o_
  obtain ⟨Ai0_0, Ci0_0, rfl, _, _⟩ := own_slice p_0
  clear o_ p_0
  have zs6 : w5.heap.size + 1 ≤ w6.heap.size := by have := hF.size; (try simp at this); omega
  replace c0_0 : w6.cell? ⟨w.heap.size, 0, none⟩ = some (.slice A0_0 x0.Nodes.length C0_0) := by rw [hF.cell (by first | (simp; done) | (simp; omega) | omega) (by omega)]; first | exact c0_0 | go_simp
  have c1_0 : w6.cell? ⟨w5.heap.size, 0, none⟩ = some (.slice Aw0_0 g.Roots.length Cw0_0) := by rw [hF.cell (by first | (simp; done) | (simp; omega) | omega) (by omega)]; first | exact c1_0 | go_simp
  have c1_1 : w6.cell? ⟨w5.heap.size, 1, none⟩ = some (.slice Aw0_1 g.Runs.length Cw0_1) := by rw [hF.cell (by first | (simp; done) | (simp; omega) | omega) (by omega)]; first | exact c1_1 | go_simp
  replace z0 : w.heap.size < w6.heap.size := by omega
  have z1 : w5.heap.size < w6.heap.size := by omega
  have HB_6 := Asd.mk (Far.trans3 (below_al (HB_5.out) _) hF (by omega))
  replace I_w0 := Asd.mk ((I_w0.out.below (below_al (Below.refl _ _) _)).far hF (by omega))
  clear hF hb
  go_wp2_with fail
  refine (toStringS_calls x1 _ _ (H1.out.below (below_al (HB_6.out) _)) (by have hq_ := q1; unfold bkS bsOf at hq_; omega)).mono ?_
  rintro e w7 ⟨v_, rfl, hM, hb⟩
  have hF := Far.of_below hb
  have I_i1 : Asd (Iv (w6.heap.size + 1) w7.heap.size w7 [strsT 9 x1] [v_]) := Asd.mk ((Iv.of_lie hM.lie).mono (by simp) (Nat.le_refl _))
  obtain ⟨F_, o_, _, _⟩ := hM
  obtain ⟨Ai1, Ci1, rfl, _, _⟩ := own_slice o_
  clear o_
  have zs7 : w6.heap.size + 1 ≤ w7.heap.size := by have := hF.size; (try simp at this); omega
  replace c0_0 : w7.cell? ⟨w.heap.size, 0, none⟩ = some (.slice A0_0 x0.Nodes.length C0_0) := by rw [hF.cell (by first | (simp; done) | (simp; omega) | omega) (by omega)]; first | exact c0_0 | go_simp
  replace c1_0 : w7.cell? ⟨w5.heap.size, 0, none⟩ = some (.slice Aw0_0 g.Roots.length Cw0_0) := by rw [hF.cell (by first | (simp; done) | (simp; omega) | omega) (by omega)]; first | exact c1_0 | go_simp
  replace c1_1 : w7.cell? ⟨w5.heap.size, 1, none⟩ = some (.slice Aw0_1 g.Runs.length Cw0_1) := by rw [hF.cell (by first | (simp; done) | (simp; omega) | omega) (by omega)]; first | exact c1_1 | go_simp
  have c2_0 : w7.cell? ⟨w6.heap.size, 0, none⟩ = some (.slice Ai0_0 x0.Nodes.length Ci0_0) := by rw [hF.cell (by first | (simp; done) | (simp; omega) | omega) (by omega)]; first | exact c2_0 | go_simp
  replace z0 : w.heap.size < w7.heap.size := by omega
  replace z1 : w5.heap.size < w7.heap.size := by omega
  have z2 : w6.heap.size < w7.heap.size := by omega
  have HB_7 := Asd.mk (Far.trans3 (below_al (HB_6.out) _) hF (by omega))
  replace I_w0 := Asd.mk ((I_w0.out.below (below_al (Below.refl _ _) _)).far hF (by omega))
  replace I_i0 := Asd.mk ((I_i0.out.below (below_al (Below.refl _ _) _)).far hF (by omega))
  clear hF hb
  go_wp2_with fail
  refine (Start_calls x0 x1 _ _ (I_i0.out.reps.below (Below.refl _ _)) (reps_one ((I_i1.out.reps.below (Below.refl _ _)))) (Web.zsm hz0.out)).mono ?_
  rw [gx]
  rintro e w8 ⟨v0_, v1_, rfl, hM, hb⟩
  have hF := Far.of_below hb
  have I_g0 : Asd (Iv (w7.heap.size) w8.heap.size w8 (g.c 126) _) := Asd.mk ((Iv.of_mades hM).mono (by simp) (Nat.le_refl _))
  obtain ⟨F_, o_, _, _⟩ := hM
  obtain ⟨_, _, _, _, he_, p_0, p_1, _⟩ := State.oopen o_
  obtain ⟨Ag0_0, Cg0_0, rfl, _, _⟩ := own_slice p_0
  obtain ⟨Ag0_1, Cg0_1, rfl, _, _⟩ := own_slice p_1
  cases he_
  clear o_ p_0 p_1
  have zs8 : w7.heap.size ≤ w8.heap.size := by have := hF.size; (try simp at this); omega
  replace c0_0 : w8.cell? ⟨w.heap.size, 0, none⟩ = some (.slice A0_0 x0.Nodes.length C0_0) := by rw [hF.cell (by first | (simp; done) | (simp; omega) | omega) (by omega)]; first | exact c0_0 | go_simp
  replace c1_0 : w8.cell? ⟨w5.heap.size, 0, none⟩ = some (.slice Aw0_0 g.Roots.length Cw0_0) := by rw [hF.cell (by first | (simp; done) | (simp; omega) | omega) (by omega)]; first | exact c1_0 | go_simp
  replace c1_1 : w8.cell? ⟨w5.heap.size, 1, none⟩ = some (.slice Aw0_1 g.Runs.length Cw0_1) := by rw [hF.cell (by first | (simp; done) | (simp; omega) | omega) (by omega)]; first | exact c1_1 | go_simp
  replace c2_0 : w8.cell? ⟨w6.heap.size, 0, none⟩ = some (.slice Ai0_0 x0.Nodes.length Ci0_0) := by rw [hF.cell (by first | (simp; done) | (simp; omega) | omega) (by omega)]; first | exact c2_0 | go_simp
  replace z0 : w.heap.size < w8.heap.size := by omega
  replace z1 : w5.heap.size < w8.heap.size := by omega
  replace z2 : w6.heap.size < w8.heap.size := by omega
  have HB_8 := Asd.mk (Far.trans3 (HB_7.out) hF (by omega))
  replace I_w0 := Asd.mk ((I_w0.out.below (Below.refl _ _)).far hF (by omega))
  replace I_i0 := Asd.mk ((I_i0.out.below (Below.refl _ _)).far hF (by omega))
  replace I_i1 := Asd.mk ((I_i1.out.below (Below.refl _ _)).far hF (by omega))
  clear hF hb
  have y_0 : eqB (g) (g) = true := eqB_yes rfl
  go_wp2_with fail
  refine (eqState_calls (g) (g) _ (I_g0.out.reps.below (below_al (Below.refl _ _) _)) (I_w0.out.reps.below (below_al (Below.refl _ _) _))).mono ?_
  rintro e w9 ⟨rfl, hb⟩
  have hF := Far.of_below hb
  have zs9 : w8.heap.size + 1 ≤ w9.heap.size := by have := hF.size; (try simp at this); omega
  replace c0_0 : w9.cell? ⟨w.heap.size, 0, none⟩ = some (.slice A0_0 x0.Nodes.length C0_0) := by rw [hF.cell (by first | (simp; done) | (simp; omega) | omega) (by omega)]; first | exact c0_0 | go_simp
  replace c1_0 : w9.cell? ⟨w5.heap.size, 0, none⟩ = some (.slice Aw0_0 g.Roots.length Cw0_0) := by rw [hF.cell (by first | (simp; done) | (simp; omega) | omega) (by omega)]; first | exact c1_0 | go_simp
  replace c1_1 : w9.cell? ⟨w5.heap.size, 1, none⟩ = some (.slice Aw0_1 g.Runs.length Cw0_1) := by rw [hF.cell (by first | (simp; done) | (simp; omega) | omega) (by omega)]; first | exact c1_1 | go_simp
  replace c2_0 : w9.cell? ⟨w6.heap.size, 0, none⟩ = some (.slice Ai0_0 x0.Nodes.length Ci0_0) := by rw [hF.cell (by first | (simp; done) | (simp; omega) | omega) (by omega)]; first | exact c2_0 | go_simp
  have c3_0 : w9.cell? ⟨w8.heap.size, 0, none⟩ = some (.slice Ag0_0 g.Roots.length Cg0_0) := by rw [hF.cell (by first | (simp; done) | (simp; omega) | omega) (by omega)]; first | exact c3_0 | go_simp
  have c3_1 : w9.cell? ⟨w8.heap.size, 1, none⟩ = some (.slice Ag0_1 g.Runs.length Cg0_1) := by rw [hF.cell (by first | (simp; done) | (simp; omega) | omega) (by omega)]; first | exact c3_1 | go_simp
  replace z0 : w.heap.size < w9.heap.size := by omega
  replace z1 : w5.heap.size < w9.heap.size := by omega
  replace z2 : w6.heap.size < w9.heap.size := by omega
  have z3 : w8.heap.size < w9.heap.size := by omega
  have HB_9 := Asd.mk (Far.trans3 (below_al (HB_8.out) _) hF (by omega))
  replace I_w0 := Asd.mk ((I_w0.out.below (below_al (Below.refl _ _) _)).far hF (by omega))
  replace I_i0 := Asd.mk ((I_i0.out.below (below_al (Below.refl _ _) _)).far hF (by omega))
  replace I_i1 := Asd.mk ((I_i1.out.below (below_al (Below.refl _ _) _)).far hF (by omega))
  replace I_g0 := Asd.mk ((I_g0.out.below (below_al (Below.refl _ _) _)).far hF (by omega))
  clear hF hb
  have yx_0 : eqB x0 x0 = true := eqB_yes rfl
  have hkeep : ∀ W W', Below W.heap.size W W' → (Below w9.heap.size w9 W ∧ W.cell? ⟨w.heap.size, 0, none⟩ = some (.slice A0_0 x0.Nodes.length C0_0) ∧ W.cell? ⟨w6.heap.size, 0, none⟩ = some (.slice Ai0_0 x0.Nodes.length Ci0_0)) → (Below w9.heap.size w9 W' ∧ W'.cell? ⟨w.heap.size, 0, none⟩ = some (.slice A0_0 x0.Nodes.length C0_0) ∧ W'.cell? ⟨w6.heap.size, 0, none⟩ = some (.slice Ai0_0 x0.Nodes.length Ci0_0)) := by
    rintro W W' hb ⟨q_0, q_1, q_2⟩
    exact ⟨below_st q_0 hb, cell_below hb q_1, cell_below hb q_2⟩
  replace hkeep := Asd.mk hkeep
  have hbs : Below w9.heap.size w9 w9.drew := (Below.refl _ _).drew
  go_wp2
  go_region_held3 (fun W => Below w9.heap.size w9 W ∧ W.cell? ⟨w.heap.size, 0, none⟩ = some (.slice A0_0 x0.Nodes.length C0_0) ∧ W.cell? ⟨w6.heap.size, 0, none⟩ = some (.slice Ai0_0 x0.Nodes.length Ci0_0)) (go_keep)
    (first | (go_at_call 9; refine (toWeb_calls x0 _ (H0.out.below (below_st HB_9.out (by assumption))) (by omega)).mono ?_; rintro e W6 ⟨us, rfl, ⟨F_, o_, n_, l_⟩, hb⟩; obtain ⟨v_0, G_0, rfl, p_0, rfl⟩ := Web.oopen o_; obtain ⟨D_0, d_0, rfl, _, _⟩ := own_slice p_0; have r6 := Asd.mk o_.rep; obtain ⟨s_0, s_1, s_2⟩ := hkeep.out _ _ hb ⟨by assumption, by first | assumption | exact c0_0, by first | assumption | exact c2_0⟩; clear hb o_ l_ p_0) | (go_at_call 11; refine (eqWeb_calls x0 x0 _ (I_i0.out.reps.below (by assumption)) r6.out).mono ?_; rintro e w10 ⟨rfl, hb⟩; obtain ⟨s_0, s_1, s_2⟩ := hkeep.out _ _ hb ⟨by assumption, by first | assumption | exact c0_0, by first | assumption | exact c2_0⟩; clear hb))
  have hF : Far 0 0 w9 w10 := Far.of_below s_0
  clear hkeep s_0 s_1 s_2 r6 hbs
  have zs10 : w9.heap.size ≤ w10.heap.size := by have := hF.size; (try simp at this); omega
  replace c0_0 : w10.cell? ⟨w.heap.size, 0, none⟩ = some (.slice A0_0 x0.Nodes.length C0_0) := by rw [hF.cell (by first | (simp; done) | (simp; omega) | omega) (by omega)]; first | exact c0_0 | go_simp
  replace c1_0 : w10.cell? ⟨w5.heap.size, 0, none⟩ = some (.slice Aw0_0 g.Roots.length Cw0_0) := by rw [hF.cell (by first | (simp; done) | (simp; omega) | omega) (by omega)]; first | exact c1_0 | go_simp
  replace c1_1 : w10.cell? ⟨w5.heap.size, 1, none⟩ = some (.slice Aw0_1 g.Runs.length Cw0_1) := by rw [hF.cell (by first | (simp; done) | (simp; omega) | omega) (by omega)]; first | exact c1_1 | go_simp
  replace c2_0 : w10.cell? ⟨w6.heap.size, 0, none⟩ = some (.slice Ai0_0 x0.Nodes.length Ci0_0) := by rw [hF.cell (by first | (simp; done) | (simp; omega) | omega) (by omega)]; first | exact c2_0 | go_simp
  replace c3_0 : w10.cell? ⟨w8.heap.size, 0, none⟩ = some (.slice Ag0_0 g.Roots.length Cg0_0) := by rw [hF.cell (by first | (simp; done) | (simp; omega) | omega) (by omega)]; first | exact c3_0 | go_simp
  replace c3_1 : w10.cell? ⟨w8.heap.size, 1, none⟩ = some (.slice Ag0_1 g.Runs.length Cg0_1) := by rw [hF.cell (by first | (simp; done) | (simp; omega) | omega) (by omega)]; first | exact c3_1 | go_simp
  replace z0 : w.heap.size < w10.heap.size := by omega
  replace z1 : w5.heap.size < w10.heap.size := by omega
  replace z2 : w6.heap.size < w10.heap.size := by omega
  replace z3 : w8.heap.size < w10.heap.size := by omega
  have HB_10 := Asd.mk (Far.trans3 (HB_9.out) hF (by omega))
  replace I_w0 := Asd.mk ((I_w0.out.below (Below.refl _ _)).far hF (by omega))
  replace I_i0 := Asd.mk ((I_i0.out.below (Below.refl _ _)).far hF (by omega))
  replace I_i1 := Asd.mk ((I_i1.out.below (Below.refl _ _)).far hF (by omega))
  replace I_g0 := Asd.mk ((I_g0.out.below (Below.refl _ _)).far hF (by omega))
  clear hF
  have yx_1 : eqB x1 x1 = true := eqB_yes rfl
  go_wp2_with fail
  refine (toStringS_calls x1 _ _ (H1.out.below (HB_10.out)) (by have hq_ := q1; unfold bkS bsOf at hq_; omega)).mono ?_
  rintro e w11 ⟨v_, rfl, hM, hb⟩
  have hF := Far.of_below hb
  have I_e1 : Asd (Iv (w10.heap.size) w11.heap.size w11 [strsT 9 x1] [v_]) := Asd.mk ((Iv.of_lie hM.lie).mono (by simp) (Nat.le_refl _))
  obtain ⟨F_, o_, _, _⟩ := hM
  obtain ⟨Ae1, Ce1, rfl, _, _⟩ := own_slice o_
  clear o_
  have zs11 : w10.heap.size ≤ w11.heap.size := by have := hF.size; (try simp at this); omega
  replace c0_0 : w11.cell? ⟨w.heap.size, 0, none⟩ = some (.slice A0_0 x0.Nodes.length C0_0) := by rw [hF.cell (by first | (simp; done) | (simp; omega) | omega) (by omega)]; first | exact c0_0 | go_simp
  replace c1_0 : w11.cell? ⟨w5.heap.size, 0, none⟩ = some (.slice Aw0_0 g.Roots.length Cw0_0) := by rw [hF.cell (by first | (simp; done) | (simp; omega) | omega) (by omega)]; first | exact c1_0 | go_simp
  replace c1_1 : w11.cell? ⟨w5.heap.size, 1, none⟩ = some (.slice Aw0_1 g.Runs.length Cw0_1) := by rw [hF.cell (by first | (simp; done) | (simp; omega) | omega) (by omega)]; first | exact c1_1 | go_simp
  replace c2_0 : w11.cell? ⟨w6.heap.size, 0, none⟩ = some (.slice Ai0_0 x0.Nodes.length Ci0_0) := by rw [hF.cell (by first | (simp; done) | (simp; omega) | omega) (by omega)]; first | exact c2_0 | go_simp
  replace c3_0 : w11.cell? ⟨w8.heap.size, 0, none⟩ = some (.slice Ag0_0 g.Roots.length Cg0_0) := by rw [hF.cell (by first | (simp; done) | (simp; omega) | omega) (by omega)]; first | exact c3_0 | go_simp
  replace c3_1 : w11.cell? ⟨w8.heap.size, 1, none⟩ = some (.slice Ag0_1 g.Runs.length Cg0_1) := by rw [hF.cell (by first | (simp; done) | (simp; omega) | omega) (by omega)]; first | exact c3_1 | go_simp
  replace z0 : w.heap.size < w11.heap.size := by omega
  replace z1 : w5.heap.size < w11.heap.size := by omega
  replace z2 : w6.heap.size < w11.heap.size := by omega
  replace z3 : w8.heap.size < w11.heap.size := by omega
  have HB_11 := Asd.mk (Far.trans3 (HB_10.out) hF (by omega))
  replace I_w0 := Asd.mk ((I_w0.out.below (Below.refl _ _)).far hF (by omega))
  replace I_i0 := Asd.mk ((I_i0.out.below (Below.refl _ _)).far hF (by omega))
  replace I_i1 := Asd.mk ((I_i1.out.below (Below.refl _ _)).far hF (by omega))
  replace I_g0 := Asd.mk ((I_g0.out.below (Below.refl _ _)).far hF (by omega))
  clear hF hb
  go_wp2_with fail
  refine (eqStringS_calls x1 x1 _ _ _ (reps_one (I_i1.out.reps.below (Below.refl _ _))) (reps_one (I_e1.out.reps.below (Below.refl _ _)))).mono ?_
  rintro e w12 ⟨rfl, hb⟩
  have hF := Far.of_below hb
  have zs12 : w11.heap.size ≤ w12.heap.size := by have := hF.size; (try simp at this); omega
  replace c0_0 : w12.cell? ⟨w.heap.size, 0, none⟩ = some (.slice A0_0 x0.Nodes.length C0_0) := by rw [hF.cell (by first | (simp; done) | (simp; omega) | omega) (by omega)]; first | exact c0_0 | go_simp
  replace c1_0 : w12.cell? ⟨w5.heap.size, 0, none⟩ = some (.slice Aw0_0 g.Roots.length Cw0_0) := by rw [hF.cell (by first | (simp; done) | (simp; omega) | omega) (by omega)]; first | exact c1_0 | go_simp
  replace c1_1 : w12.cell? ⟨w5.heap.size, 1, none⟩ = some (.slice Aw0_1 g.Runs.length Cw0_1) := by rw [hF.cell (by first | (simp; done) | (simp; omega) | omega) (by omega)]; first | exact c1_1 | go_simp
  replace c2_0 : w12.cell? ⟨w6.heap.size, 0, none⟩ = some (.slice Ai0_0 x0.Nodes.length Ci0_0) := by rw [hF.cell (by first | (simp; done) | (simp; omega) | omega) (by omega)]; first | exact c2_0 | go_simp
  replace c3_0 : w12.cell? ⟨w8.heap.size, 0, none⟩ = some (.slice Ag0_0 g.Roots.length Cg0_0) := by rw [hF.cell (by first | (simp; done) | (simp; omega) | omega) (by omega)]; first | exact c3_0 | go_simp
  replace c3_1 : w12.cell? ⟨w8.heap.size, 1, none⟩ = some (.slice Ag0_1 g.Runs.length Cg0_1) := by rw [hF.cell (by first | (simp; done) | (simp; omega) | omega) (by omega)]; first | exact c3_1 | go_simp
  replace z0 : w.heap.size < w12.heap.size := by omega
  replace z1 : w5.heap.size < w12.heap.size := by omega
  replace z2 : w6.heap.size < w12.heap.size := by omega
  replace z3 : w8.heap.size < w12.heap.size := by omega
  have HB_12 := Asd.mk (Far.trans3 (HB_11.out) hF (by omega))
  replace I_w0 := Asd.mk ((I_w0.out.below (Below.refl _ _)).far hF (by omega))
  replace I_i0 := Asd.mk ((I_i0.out.below (Below.refl _ _)).far hF (by omega))
  replace I_i1 := Asd.mk ((I_i1.out.below (Below.refl _ _)).far hF (by omega))
  replace I_g0 := Asd.mk ((I_g0.out.below (Below.refl _ _)).far hF (by omega))
  replace I_e1 := Asd.mk ((I_e1.out.below (Below.refl _ _)).far hF (by omega))
  clear hF hb
  clear I_e1
  go_wp2_with fail
  refine (markWeb_calls (x0) _ _ (1) _ _ (by first | rfl | omega) (I_i0.out.below (Below.refl _ _)) (by omega) (by have := ka0.out; omega)).mono ?_
  rintro e w13 ⟨he, hI, hF⟩
  rw [ka0.out] at he
  subst he
  replace hI := Asd.mk hI
  have zs13 : w12.heap.size ≤ w13.heap.size := by have := hF.size; (try simp at this); omega
  replace c0_0 : w13.cell? ⟨w.heap.size, 0, none⟩ = some (.slice A0_0 x0.Nodes.length C0_0) := by rw [hF.cell (by first | (simp; done) | (simp; omega) | omega) (by omega)]; first | exact c0_0 | go_simp
  replace c1_0 : w13.cell? ⟨w5.heap.size, 0, none⟩ = some (.slice Aw0_0 g.Roots.length Cw0_0) := by rw [hF.cell (by first | (simp; done) | (simp; omega) | omega) (by omega)]; first | exact c1_0 | go_simp
  replace c1_1 : w13.cell? ⟨w5.heap.size, 1, none⟩ = some (.slice Aw0_1 g.Runs.length Cw0_1) := by rw [hF.cell (by first | (simp; done) | (simp; omega) | omega) (by omega)]; first | exact c1_1 | go_simp
  replace c2_0 : w13.cell? ⟨w6.heap.size, 0, none⟩ = some (.slice Ai0_0 x0.Nodes.length Ci0_0) := by rw [hF.cell (by first | (simp; done) | (simp; omega) | omega) (by omega)]; first | exact c2_0 | go_simp
  replace c3_0 : w13.cell? ⟨w8.heap.size, 0, none⟩ = some (.slice Ag0_0 g.Roots.length Cg0_0) := by rw [hF.cell (by first | (simp; done) | (simp; omega) | omega) (by omega)]; first | exact c3_0 | go_simp
  replace c3_1 : w13.cell? ⟨w8.heap.size, 1, none⟩ = some (.slice Ag0_1 g.Runs.length Cg0_1) := by rw [hF.cell (by first | (simp; done) | (simp; omega) | omega) (by omega)]; first | exact c3_1 | go_simp
  replace z0 : w.heap.size < w13.heap.size := by omega
  replace z1 : w5.heap.size < w13.heap.size := by omega
  replace z2 : w6.heap.size < w13.heap.size := by omega
  replace z3 : w8.heap.size < w13.heap.size := by omega
  have HB_13 := Asd.mk (Far.trans3 (HB_12.out) hF (by omega))
  replace I_w0 := Asd.mk ((I_w0.out.below (Below.refl _ _)).far hF (by omega))
  replace I_i1 := Asd.mk ((I_i1.out.below (Below.refl _ _)).far hF (by omega))
  replace I_g0 := Asd.mk ((I_g0.out.below (Below.refl _ _)).far hF (by omega))
  clear hF
  clear I_i0 hI
  go_wp2_with fail
  refine (markStringS_iv (x1) _ _ (KA0) _ _ _ (by first | rfl | omega) (I_i1.out.below (Below.refl _ _)) (by omega) (by have := ka1.out; omega)).mono ?_
  rintro e w14 ⟨he, hI, hF⟩
  rw [ka1.out] at he
  subst he
  replace hI := Asd.mk hI
  have zs14 : w13.heap.size ≤ w14.heap.size := by have := hF.size; (try simp at this); omega
  replace c0_0 : w14.cell? ⟨w.heap.size, 0, none⟩ = some (.slice A0_0 x0.Nodes.length C0_0) := by rw [hF.cell (by first | (simp; done) | (simp; omega) | omega) (by omega)]; first | exact c0_0 | go_simp
  replace c1_0 : w14.cell? ⟨w5.heap.size, 0, none⟩ = some (.slice Aw0_0 g.Roots.length Cw0_0) := by rw [hF.cell (by first | (simp; done) | (simp; omega) | omega) (by omega)]; first | exact c1_0 | go_simp
  replace c1_1 : w14.cell? ⟨w5.heap.size, 1, none⟩ = some (.slice Aw0_1 g.Runs.length Cw0_1) := by rw [hF.cell (by first | (simp; done) | (simp; omega) | omega) (by omega)]; first | exact c1_1 | go_simp
  replace c2_0 : w14.cell? ⟨w6.heap.size, 0, none⟩ = some (.slice Ai0_0 x0.Nodes.length Ci0_0) := by rw [hF.cell (by first | (simp; done) | (simp; omega) | omega) (by omega)]; first | exact c2_0 | go_simp
  replace c3_0 : w14.cell? ⟨w8.heap.size, 0, none⟩ = some (.slice Ag0_0 g.Roots.length Cg0_0) := by rw [hF.cell (by first | (simp; done) | (simp; omega) | omega) (by omega)]; first | exact c3_0 | go_simp
  replace c3_1 : w14.cell? ⟨w8.heap.size, 1, none⟩ = some (.slice Ag0_1 g.Runs.length Cg0_1) := by rw [hF.cell (by first | (simp; done) | (simp; omega) | omega) (by omega)]; first | exact c3_1 | go_simp
  replace z0 : w.heap.size < w14.heap.size := by omega
  replace z1 : w5.heap.size < w14.heap.size := by omega
  replace z2 : w6.heap.size < w14.heap.size := by omega
  replace z3 : w8.heap.size < w14.heap.size := by omega
  have HB_14 := Asd.mk (Far.trans3 (HB_13.out) hF (by omega))
  replace I_w0 := Asd.mk ((I_w0.out.below (Below.refl _ _)).far hF (by omega))
  replace I_g0 := Asd.mk ((I_g0.out.below (Below.refl _ _)).far hF (by omega))
  clear hF
  clear I_i1 hI
  go_wp2_with fail
  refine (eqState_calls (g) (g) _ (I_g0.out.reps.below (Below.refl _ _)) (I_w0.out.reps.below (Below.refl _ _))).mono ?_
  rintro e w15 ⟨rfl, hb⟩
  have hF := Far.of_below hb
  have zs15 : w14.heap.size ≤ w15.heap.size := by have := hF.size; (try simp at this); omega
  replace c0_0 : w15.cell? ⟨w.heap.size, 0, none⟩ = some (.slice A0_0 x0.Nodes.length C0_0) := by rw [hF.cell (by first | (simp; done) | (simp; omega) | omega) (by omega)]; first | exact c0_0 | go_simp
  replace c1_0 : w15.cell? ⟨w5.heap.size, 0, none⟩ = some (.slice Aw0_0 g.Roots.length Cw0_0) := by rw [hF.cell (by first | (simp; done) | (simp; omega) | omega) (by omega)]; first | exact c1_0 | go_simp
  replace c1_1 : w15.cell? ⟨w5.heap.size, 1, none⟩ = some (.slice Aw0_1 g.Runs.length Cw0_1) := by rw [hF.cell (by first | (simp; done) | (simp; omega) | omega) (by omega)]; first | exact c1_1 | go_simp
  replace c2_0 : w15.cell? ⟨w6.heap.size, 0, none⟩ = some (.slice Ai0_0 x0.Nodes.length Ci0_0) := by rw [hF.cell (by first | (simp; done) | (simp; omega) | omega) (by omega)]; first | exact c2_0 | go_simp
  replace c3_0 : w15.cell? ⟨w8.heap.size, 0, none⟩ = some (.slice Ag0_0 g.Roots.length Cg0_0) := by rw [hF.cell (by first | (simp; done) | (simp; omega) | omega) (by omega)]; first | exact c3_0 | go_simp
  replace c3_1 : w15.cell? ⟨w8.heap.size, 1, none⟩ = some (.slice Ag0_1 g.Runs.length Cg0_1) := by rw [hF.cell (by first | (simp; done) | (simp; omega) | omega) (by omega)]; first | exact c3_1 | go_simp
  replace z0 : w.heap.size < w15.heap.size := by omega
  replace z1 : w5.heap.size < w15.heap.size := by omega
  replace z2 : w6.heap.size < w15.heap.size := by omega
  replace z3 : w8.heap.size < w15.heap.size := by omega
  have HB_15 := Asd.mk (Far.trans3 (HB_14.out) hF (by omega))
  replace I_w0 := Asd.mk ((I_w0.out.below (Below.refl _ _)).far hF (by omega))
  replace I_g0 := Asd.mk ((I_g0.out.below (Below.refl _ _)).far hF (by omega))
  clear hF hb
  go_wp2_with fail
  refine (markState_calls (g) _ _ (1) _ _ (by first | rfl | omega) (I_g0.out.below (Below.refl _ _)) (by omega) (by have := kg0.out; omega)).mono ?_
  rintro e w16 ⟨he, hI, hF⟩
  rw [kg0.out] at he
  subst he
  replace hI := Asd.mk hI
  have zs16 : w15.heap.size ≤ w16.heap.size := by have := hF.size; (try simp at this); omega
  replace c0_0 : w16.cell? ⟨w.heap.size, 0, none⟩ = some (.slice A0_0 x0.Nodes.length C0_0) := by rw [hF.cell (by first | (simp; done) | (simp; omega) | omega) (by omega)]; first | exact c0_0 | go_simp
  replace c1_0 : w16.cell? ⟨w5.heap.size, 0, none⟩ = some (.slice Aw0_0 g.Roots.length Cw0_0) := by rw [hF.cell (by first | (simp; done) | (simp; omega) | omega) (by omega)]; first | exact c1_0 | go_simp
  replace c1_1 : w16.cell? ⟨w5.heap.size, 1, none⟩ = some (.slice Aw0_1 g.Runs.length Cw0_1) := by rw [hF.cell (by first | (simp; done) | (simp; omega) | omega) (by omega)]; first | exact c1_1 | go_simp
  replace c2_0 : w16.cell? ⟨w6.heap.size, 0, none⟩ = some (.slice Ai0_0 x0.Nodes.length Ci0_0) := by rw [hF.cell (by first | (simp; done) | (simp; omega) | omega) (by omega)]; first | exact c2_0 | go_simp
  replace c3_0 : w16.cell? ⟨w8.heap.size, 0, none⟩ = some (.slice Ag0_0 g.Roots.length Cg0_0) := by rw [hF.cell (by first | (simp; done) | (simp; omega) | omega) (by omega)]; first | exact c3_0 | go_simp
  replace c3_1 : w16.cell? ⟨w8.heap.size, 1, none⟩ = some (.slice Ag0_1 g.Runs.length Cg0_1) := by rw [hF.cell (by first | (simp; done) | (simp; omega) | omega) (by omega)]; first | exact c3_1 | go_simp
  replace z0 : w.heap.size < w16.heap.size := by omega
  replace z1 : w5.heap.size < w16.heap.size := by omega
  replace z2 : w6.heap.size < w16.heap.size := by omega
  replace z3 : w8.heap.size < w16.heap.size := by omega
  have HB_16 := Asd.mk (Far.trans3 (HB_15.out) hF (by omega))
  replace I_w0 := Asd.mk ((I_w0.out.below (Below.refl _ _)).far hF (by omega))
  clear hF
  clear I_g0
  have I_m0 := hI
  clear hI
  go_wp2_with fail
  refine (heldState_calls (g) _ _ (1) _ _ (by first | rfl | omega) (I_m0.out.below (Below.refl _ _)) (by omega) (by have := kg0.out; omega)).mono ?_
  rintro e w17 ⟨he, hb⟩
  have hF := Far.of_below hb
  rw [kg0.out] at he
  subst he
  have zs17 : w16.heap.size ≤ w17.heap.size := by have := hF.size; (try simp at this); omega
  replace c0_0 : w17.cell? ⟨w.heap.size, 0, none⟩ = some (.slice A0_0 x0.Nodes.length C0_0) := by rw [hF.cell (by first | (simp; done) | (simp; omega) | omega) (by omega)]; first | exact c0_0 | go_simp
  replace c1_0 : w17.cell? ⟨w5.heap.size, 0, none⟩ = some (.slice Aw0_0 g.Roots.length Cw0_0) := by rw [hF.cell (by first | (simp; done) | (simp; omega) | omega) (by omega)]; first | exact c1_0 | go_simp
  replace c1_1 : w17.cell? ⟨w5.heap.size, 1, none⟩ = some (.slice Aw0_1 g.Runs.length Cw0_1) := by rw [hF.cell (by first | (simp; done) | (simp; omega) | omega) (by omega)]; first | exact c1_1 | go_simp
  replace c2_0 : w17.cell? ⟨w6.heap.size, 0, none⟩ = some (.slice Ai0_0 x0.Nodes.length Ci0_0) := by rw [hF.cell (by first | (simp; done) | (simp; omega) | omega) (by omega)]; first | exact c2_0 | go_simp
  replace c3_0 : w17.cell? ⟨w8.heap.size, 0, none⟩ = some (.slice Ag0_0 g.Roots.length Cg0_0) := by rw [hF.cell (by first | (simp; done) | (simp; omega) | omega) (by omega)]; first | exact c3_0 | go_simp
  replace c3_1 : w17.cell? ⟨w8.heap.size, 1, none⟩ = some (.slice Ag0_1 g.Runs.length Cg0_1) := by rw [hF.cell (by first | (simp; done) | (simp; omega) | omega) (by omega)]; first | exact c3_1 | go_simp
  replace z0 : w.heap.size < w17.heap.size := by omega
  replace z1 : w5.heap.size < w17.heap.size := by omega
  replace z2 : w6.heap.size < w17.heap.size := by omega
  replace z3 : w8.heap.size < w17.heap.size := by omega
  have HB_17 := Asd.mk (Far.trans3 (HB_16.out) hF (by omega))
  replace I_w0 := Asd.mk ((I_w0.out.below (Below.refl _ _)).far hF (by omega))
  replace I_m0 := Asd.mk ((I_m0.out.below (Below.refl _ _)).far hF (by omega))
  clear hF hb
  go_wp2_with fail
  refine (toWeb_calls x0 _ (H0.out.below (HB_17.out)) (by omega)).mono ?_
  rintro e w18 ⟨us, rfl, hM, hb⟩
  have hF := Far.of_below hb
  have I_h0 : Asd (Iv (w17.heap.size) w18.heap.size w18 (x0.c 46 108 112) us) := Asd.mk ((Iv.of_mades hM).mono (by simp) (Nat.le_refl _))
  obtain ⟨F_, o_, _, _⟩ := hM
  obtain ⟨v_0, G_0, rfl, p_0, rfl⟩ := Web.oopen o_
  obtain ⟨Ah0_0, Ch0_0, rfl, _, _⟩ := own_slice p_0
  clear o_ p_0
  have zs18 : w17.heap.size ≤ w18.heap.size := by have := hF.size; (try simp at this); omega
  replace c0_0 : w18.cell? ⟨w.heap.size, 0, none⟩ = some (.slice A0_0 x0.Nodes.length C0_0) := by rw [hF.cell (by first | (simp; done) | (simp; omega) | omega) (by omega)]; first | exact c0_0 | go_simp
  replace c1_0 : w18.cell? ⟨w5.heap.size, 0, none⟩ = some (.slice Aw0_0 g.Roots.length Cw0_0) := by rw [hF.cell (by first | (simp; done) | (simp; omega) | omega) (by omega)]; first | exact c1_0 | go_simp
  replace c1_1 : w18.cell? ⟨w5.heap.size, 1, none⟩ = some (.slice Aw0_1 g.Runs.length Cw0_1) := by rw [hF.cell (by first | (simp; done) | (simp; omega) | omega) (by omega)]; first | exact c1_1 | go_simp
  replace c2_0 : w18.cell? ⟨w6.heap.size, 0, none⟩ = some (.slice Ai0_0 x0.Nodes.length Ci0_0) := by rw [hF.cell (by first | (simp; done) | (simp; omega) | omega) (by omega)]; first | exact c2_0 | go_simp
  replace c3_0 : w18.cell? ⟨w8.heap.size, 0, none⟩ = some (.slice Ag0_0 g.Roots.length Cg0_0) := by rw [hF.cell (by first | (simp; done) | (simp; omega) | omega) (by omega)]; first | exact c3_0 | go_simp
  replace c3_1 : w18.cell? ⟨w8.heap.size, 1, none⟩ = some (.slice Ag0_1 g.Runs.length Cg0_1) := by rw [hF.cell (by first | (simp; done) | (simp; omega) | omega) (by omega)]; first | exact c3_1 | go_simp
  replace z0 : w.heap.size < w18.heap.size := by omega
  replace z1 : w5.heap.size < w18.heap.size := by omega
  replace z2 : w6.heap.size < w18.heap.size := by omega
  replace z3 : w8.heap.size < w18.heap.size := by omega
  have HB_18 := Asd.mk (Far.trans3 (HB_17.out) hF (by omega))
  replace I_w0 := Asd.mk ((I_w0.out.below (Below.refl _ _)).far hF (by omega))
  replace I_m0 := Asd.mk ((I_m0.out.below (Below.refl _ _)).far hF (by omega))
  clear hF hb
  go_wp2_with fail
  refine (toStringS_calls x1 _ _ (H1.out.below (HB_18.out)) (by have hq_ := q1; unfold bkS bsOf at hq_; omega)).mono ?_
  rintro e w19 ⟨v_, rfl, hM, hb⟩
  have hF := Far.of_below hb
  have I_h1 : Asd (Iv (w18.heap.size) w19.heap.size w19 [strsT 9 x1] [v_]) := Asd.mk ((Iv.of_lie hM.lie).mono (by simp) (Nat.le_refl _))
  obtain ⟨F_, o_, _, _⟩ := hM
  obtain ⟨Ah1, Ch1, rfl, _, _⟩ := own_slice o_
  clear o_
  have zs19 : w18.heap.size ≤ w19.heap.size := by have := hF.size; (try simp at this); omega
  replace c0_0 : w19.cell? ⟨w.heap.size, 0, none⟩ = some (.slice A0_0 x0.Nodes.length C0_0) := by rw [hF.cell (by first | (simp; done) | (simp; omega) | omega) (by omega)]; first | exact c0_0 | go_simp
  replace c1_0 : w19.cell? ⟨w5.heap.size, 0, none⟩ = some (.slice Aw0_0 g.Roots.length Cw0_0) := by rw [hF.cell (by first | (simp; done) | (simp; omega) | omega) (by omega)]; first | exact c1_0 | go_simp
  replace c1_1 : w19.cell? ⟨w5.heap.size, 1, none⟩ = some (.slice Aw0_1 g.Runs.length Cw0_1) := by rw [hF.cell (by first | (simp; done) | (simp; omega) | omega) (by omega)]; first | exact c1_1 | go_simp
  replace c2_0 : w19.cell? ⟨w6.heap.size, 0, none⟩ = some (.slice Ai0_0 x0.Nodes.length Ci0_0) := by rw [hF.cell (by first | (simp; done) | (simp; omega) | omega) (by omega)]; first | exact c2_0 | go_simp
  replace c3_0 : w19.cell? ⟨w8.heap.size, 0, none⟩ = some (.slice Ag0_0 g.Roots.length Cg0_0) := by rw [hF.cell (by first | (simp; done) | (simp; omega) | omega) (by omega)]; first | exact c3_0 | go_simp
  replace c3_1 : w19.cell? ⟨w8.heap.size, 1, none⟩ = some (.slice Ag0_1 g.Runs.length Cg0_1) := by rw [hF.cell (by first | (simp; done) | (simp; omega) | omega) (by omega)]; first | exact c3_1 | go_simp
  replace z0 : w.heap.size < w19.heap.size := by omega
  replace z1 : w5.heap.size < w19.heap.size := by omega
  replace z2 : w6.heap.size < w19.heap.size := by omega
  replace z3 : w8.heap.size < w19.heap.size := by omega
  have HB_19 := Asd.mk (Far.trans3 (HB_18.out) hF (by omega))
  replace I_w0 := Asd.mk ((I_w0.out.below (Below.refl _ _)).far hF (by omega))
  replace I_m0 := Asd.mk ((I_m0.out.below (Below.refl _ _)).far hF (by omega))
  replace I_h0 := Asd.mk ((I_h0.out.below (Below.refl _ _)).far hF (by omega))
  clear hF hb
  go_wp2_with fail
  refine (Start_calls x0 x1 _ _ (I_h0.out.reps.below (Below.refl _ _)) (reps_one ((I_h1.out.reps.below (Below.refl _ _)))) (Web.zsm hz0.out)).mono ?_
  rw [gx]
  rintro e w20 ⟨v0_, v1_, rfl, hM, hb⟩
  have hF := Far.of_below hb
  have I_k0 : Asd (Iv (w19.heap.size) w20.heap.size w20 (g.c 126) _) := Asd.mk ((Iv.of_mades hM).mono (by simp) (Nat.le_refl _))
  obtain ⟨F_, o_, _, _⟩ := hM
  obtain ⟨_, _, _, _, he_, p_0, p_1, _⟩ := State.oopen o_
  obtain ⟨Ak0_0, Ck0_0, rfl, _, _⟩ := own_slice p_0
  obtain ⟨Ak0_1, Ck0_1, rfl, _, _⟩ := own_slice p_1
  cases he_
  clear o_ p_0 p_1
  have zs20 : w19.heap.size ≤ w20.heap.size := by have := hF.size; (try simp at this); omega
  replace c0_0 : w20.cell? ⟨w.heap.size, 0, none⟩ = some (.slice A0_0 x0.Nodes.length C0_0) := by rw [hF.cell (by first | (simp; done) | (simp; omega) | omega) (by omega)]; first | exact c0_0 | go_simp
  replace c1_0 : w20.cell? ⟨w5.heap.size, 0, none⟩ = some (.slice Aw0_0 g.Roots.length Cw0_0) := by rw [hF.cell (by first | (simp; done) | (simp; omega) | omega) (by omega)]; first | exact c1_0 | go_simp
  replace c1_1 : w20.cell? ⟨w5.heap.size, 1, none⟩ = some (.slice Aw0_1 g.Runs.length Cw0_1) := by rw [hF.cell (by first | (simp; done) | (simp; omega) | omega) (by omega)]; first | exact c1_1 | go_simp
  replace c2_0 : w20.cell? ⟨w6.heap.size, 0, none⟩ = some (.slice Ai0_0 x0.Nodes.length Ci0_0) := by rw [hF.cell (by first | (simp; done) | (simp; omega) | omega) (by omega)]; first | exact c2_0 | go_simp
  replace c3_0 : w20.cell? ⟨w8.heap.size, 0, none⟩ = some (.slice Ag0_0 g.Roots.length Cg0_0) := by rw [hF.cell (by first | (simp; done) | (simp; omega) | omega) (by omega)]; first | exact c3_0 | go_simp
  replace c3_1 : w20.cell? ⟨w8.heap.size, 1, none⟩ = some (.slice Ag0_1 g.Runs.length Cg0_1) := by rw [hF.cell (by first | (simp; done) | (simp; omega) | omega) (by omega)]; first | exact c3_1 | go_simp
  replace z0 : w.heap.size < w20.heap.size := by omega
  replace z1 : w5.heap.size < w20.heap.size := by omega
  replace z2 : w6.heap.size < w20.heap.size := by omega
  replace z3 : w8.heap.size < w20.heap.size := by omega
  have HB_20 := Asd.mk (Far.trans3 (HB_19.out) hF (by omega))
  replace I_w0 := Asd.mk ((I_w0.out.below (Below.refl _ _)).far hF (by omega))
  replace I_m0 := Asd.mk ((I_m0.out.below (Below.refl _ _)).far hF (by omega))
  replace I_h0 := Asd.mk ((I_h0.out.below (Below.refl _ _)).far hF (by omega))
  replace I_h1 := Asd.mk ((I_h1.out.below (Below.refl _ _)).far hF (by omega))
  clear hF hb
  clear I_h0
  clear I_h1
  go_wp2_with fail
  refine (eqState_calls (g) (g) _ (I_k0.out.reps.below (below_al (Below.refl _ _) _)) (I_w0.out.reps.below (below_al (Below.refl _ _) _))).mono ?_
  rintro e w21 ⟨rfl, hb⟩
  have hF := Far.of_below hb
  have zs21 : w20.heap.size + 1 ≤ w21.heap.size := by have := hF.size; (try simp at this); omega
  replace c0_0 : w21.cell? ⟨w.heap.size, 0, none⟩ = some (.slice A0_0 x0.Nodes.length C0_0) := by rw [hF.cell (by first | (simp; done) | (simp; omega) | omega) (by omega)]; first | exact c0_0 | go_simp
  replace c1_0 : w21.cell? ⟨w5.heap.size, 0, none⟩ = some (.slice Aw0_0 g.Roots.length Cw0_0) := by rw [hF.cell (by first | (simp; done) | (simp; omega) | omega) (by omega)]; first | exact c1_0 | go_simp
  replace c1_1 : w21.cell? ⟨w5.heap.size, 1, none⟩ = some (.slice Aw0_1 g.Runs.length Cw0_1) := by rw [hF.cell (by first | (simp; done) | (simp; omega) | omega) (by omega)]; first | exact c1_1 | go_simp
  replace c2_0 : w21.cell? ⟨w6.heap.size, 0, none⟩ = some (.slice Ai0_0 x0.Nodes.length Ci0_0) := by rw [hF.cell (by first | (simp; done) | (simp; omega) | omega) (by omega)]; first | exact c2_0 | go_simp
  replace c3_0 : w21.cell? ⟨w8.heap.size, 0, none⟩ = some (.slice Ag0_0 g.Roots.length Cg0_0) := by rw [hF.cell (by first | (simp; done) | (simp; omega) | omega) (by omega)]; first | exact c3_0 | go_simp
  replace c3_1 : w21.cell? ⟨w8.heap.size, 1, none⟩ = some (.slice Ag0_1 g.Runs.length Cg0_1) := by rw [hF.cell (by first | (simp; done) | (simp; omega) | omega) (by omega)]; first | exact c3_1 | go_simp
  have c4_0 : w21.cell? ⟨w20.heap.size, 0, none⟩ = some (.slice Ak0_0 g.Roots.length Ck0_0) := by rw [hF.cell (by first | (simp; done) | (simp; omega) | omega) (by omega)]; first | exact c4_0 | go_simp
  have c4_1 : w21.cell? ⟨w20.heap.size, 1, none⟩ = some (.slice Ak0_1 g.Runs.length Ck0_1) := by rw [hF.cell (by first | (simp; done) | (simp; omega) | omega) (by omega)]; first | exact c4_1 | go_simp
  replace z0 : w.heap.size < w21.heap.size := by omega
  replace z1 : w5.heap.size < w21.heap.size := by omega
  replace z2 : w6.heap.size < w21.heap.size := by omega
  replace z3 : w8.heap.size < w21.heap.size := by omega
  have z4 : w20.heap.size < w21.heap.size := by omega
  have HB_21 := Asd.mk (Far.trans3 (below_al (HB_20.out) _) hF (by omega))
  replace I_w0 := Asd.mk ((I_w0.out.below (below_al (Below.refl _ _) _)).far hF (by omega))
  replace I_m0 := Asd.mk ((I_m0.out.below (below_al (Below.refl _ _) _)).far hF (by omega))
  replace I_k0 := Asd.mk ((I_k0.out.below (below_al (Below.refl _ _) _)).far hF (by omega))
  clear hF hb
  go_wp2_with fail
  refine (heldState_calls (g) _ _ (1) _ _ (by first | rfl | omega) (I_m0.out.below (Below.refl _ _)) (by omega) (by have := kg0.out; omega)).mono ?_
  rintro e w22 ⟨he, hb⟩
  have hF := Far.of_below hb
  rw [kg0.out] at he
  subst he
  have zs22 : w21.heap.size ≤ w22.heap.size := by have := hF.size; (try simp at this); omega
  replace c0_0 : w22.cell? ⟨w.heap.size, 0, none⟩ = some (.slice A0_0 x0.Nodes.length C0_0) := by rw [hF.cell (by first | (simp; done) | (simp; omega) | omega) (by omega)]; first | exact c0_0 | go_simp
  replace c1_0 : w22.cell? ⟨w5.heap.size, 0, none⟩ = some (.slice Aw0_0 g.Roots.length Cw0_0) := by rw [hF.cell (by first | (simp; done) | (simp; omega) | omega) (by omega)]; first | exact c1_0 | go_simp
  replace c1_1 : w22.cell? ⟨w5.heap.size, 1, none⟩ = some (.slice Aw0_1 g.Runs.length Cw0_1) := by rw [hF.cell (by first | (simp; done) | (simp; omega) | omega) (by omega)]; first | exact c1_1 | go_simp
  replace c2_0 : w22.cell? ⟨w6.heap.size, 0, none⟩ = some (.slice Ai0_0 x0.Nodes.length Ci0_0) := by rw [hF.cell (by first | (simp; done) | (simp; omega) | omega) (by omega)]; first | exact c2_0 | go_simp
  replace c3_0 : w22.cell? ⟨w8.heap.size, 0, none⟩ = some (.slice Ag0_0 g.Roots.length Cg0_0) := by rw [hF.cell (by first | (simp; done) | (simp; omega) | omega) (by omega)]; first | exact c3_0 | go_simp
  replace c3_1 : w22.cell? ⟨w8.heap.size, 1, none⟩ = some (.slice Ag0_1 g.Runs.length Cg0_1) := by rw [hF.cell (by first | (simp; done) | (simp; omega) | omega) (by omega)]; first | exact c3_1 | go_simp
  replace c4_0 : w22.cell? ⟨w20.heap.size, 0, none⟩ = some (.slice Ak0_0 g.Roots.length Ck0_0) := by rw [hF.cell (by first | (simp; done) | (simp; omega) | omega) (by omega)]; first | exact c4_0 | go_simp
  replace c4_1 : w22.cell? ⟨w20.heap.size, 1, none⟩ = some (.slice Ak0_1 g.Runs.length Ck0_1) := by rw [hF.cell (by first | (simp; done) | (simp; omega) | omega) (by omega)]; first | exact c4_1 | go_simp
  replace z0 : w.heap.size < w22.heap.size := by omega
  replace z1 : w5.heap.size < w22.heap.size := by omega
  replace z2 : w6.heap.size < w22.heap.size := by omega
  replace z3 : w8.heap.size < w22.heap.size := by omega
  replace z4 : w20.heap.size < w22.heap.size := by omega
  have HB_22 := Asd.mk (Far.trans3 (HB_21.out) hF (by omega))
  replace I_w0 := Asd.mk ((I_w0.out.below (Below.refl _ _)).far hF (by omega))
  replace I_m0 := Asd.mk ((I_m0.out.below (Below.refl _ _)).far hF (by omega))
  replace I_k0 := Asd.mk ((I_k0.out.below (Below.refl _ _)).far hF (by omega))
  clear hF hb
  go_wp2
  go_ret
  exact ⟨rfl, HB_22.out⟩
end Go.Proofs.Ytmjfkjdfmpileaa.M
end
section
namespace Go.Proofs.Ytmjfkjdfmpileaa.FnExactStart
open Go.ChangeShapes Go.WideShapes Go.ChangeAt Go.RowKit
open Go.ChangeMaps (open_string shut_string)
set_option linter.unusedVariables false
theorem own : ownKnob Try.prog.godebug = none := by kernel_rfl
theorem laidOut : laidOutB Try.prog = true := by kernel_rfl
set_option maxRecDepth 100000 in
theorem lifted (os : Os) (started : os.Started) (H : Type) (enc : TypeId × Value → H) :
    ReturnsInHanded {} Try.checked os 6 .any (Rows.fnExactStartSpec.pre6 enc Try.prog Try.f6 Rows.fnExactStartRow.domain false) (Rows.fnExactStartSpec.post enc Try.prog Try.f6 false true false false) := by
  refine returnsInHanded_of_change_sized (C := Try.checked) own started (by kernel_rfl) Try.func6
    (ChangeSpec.witness6 (enc := enc) (C := Try.checked) false ⟨#[], #[.agg #[.slice none 0 0], .slice none 0 0], []⟩ 8 (by kernel_rfl) (by kernel_rfl) (by kernel_rfl) (by kernel_rfl)) ?_
  intro W base args ds gs before hval0 hW hcnd hsz0 _
  have hW' := hW
  obtain ⟨p, q, hA0, hV, rfl, hfz, hnd⟩ := hW
  have hA : DataW.TrodAll enc Try.prog W 0 (fun _ => true) true Try.f6.params.toList args.toList ds p := hA0
  rw [Try.params6] at hA
  obtain ⟨v0, vs0, d0, ds0, p0, q0, hargs, rfl, rfl, h0, r0⟩ := trodAll_cons hA
  obtain ⟨v1, vs1, d1, ds1, p1, q1, rfl, rfl, rfl, h1, r1⟩ := trodAll_cons r0
  obtain ⟨rfl, rfl, rfl⟩ := trodAll_nil r1
  obtain rfl : args = #[v0, v1] := by cases args; simp_all
  obtain ⟨rfl, rfl⟩ := trodVars_none hV
  have hv0 : Value.okWide Try.prog W .any base 24 v0 := hval0 0 24 v0 (by rw [Try.params6]; rfl) rfl
  have lt0 : ∀ x ∈ p0, x.block < W.heap.size := by obtain ⟨m, hm⟩ := h0; exact DataW.trod_lt m _ _ _ hm
  have k0 := h0
  obtain ⟨f0, hx0⟩ := h0
  obtain ⟨x0, hr0, hz0⟩ := M.rdWeb.2 enc W f0 _ _ hx0
  obtain ⟨cs0, rfl, _⟩ := okWide_struct Try.underlying24 hv0
  replace hr0 : M.reps W _ cs0.toList := hr0
  have hv1 : Value.okWide Try.prog W .any base 56 v1 := hval0 1 56 v1 (by rw [Try.params6]; rfl) rfl
  have lt1 : ∀ x ∈ p1, x.block < W.heap.size := by obtain ⟨m, hm⟩ := h1; exact DataW.trod_lt m _ _ _ hm
  have k1 := h1
  obtain ⟨f1, hx1⟩ := h1
  obtain ⟨A1, L1, C1, rfl⟩ := okWide_slice Try.underlying56 hv1
  obtain ⟨x1, hr1, hz1⟩ := M.rdStrs.2 enc W f1 _ _ hx1
  replace hr1 := M.reps_one hr1
  clear hA0 hval0 hsz0 hv0 hv1
  have hw := M.FnExactStart_calls x0 x1 W hr0 hz0 hr1 hz1
  simp only [Array.toArray_toList] at hw
  refine hw.mono fun e W' ⟨he, bel⟩ => ?_
  subst he
  exact ⟨_, rfl, _, _, _, [], _, [], hW', trodAll_mk1 (shut_bool Try.underlying4 _), (trodAll_cons_mk (Below.trod laidOut (by kernel_rfl) (of_decide_eq_true (by kernel_rfl)) k0 bel lt0) (trodAll_cons_mk (Below.trod laidOut (by kernel_rfl) (of_decide_eq_true (by kernel_rfl)) k1 bel lt1) trodAll_mk0)), rfl, bel.frame _, fun h => by cases h⟩
theorem over : Rows.fnExactStartRow.holds Try.pinned (OpenSpec.ofChange Rows.fnExactStartSpec) :=
  OpenClaim.holds_of_wide 6 Try.f6 rfl rfl rfl rfl rfl rfl rfl ⟨rfl, rfl, rfl, rfl, rfl⟩ rfl rfl rfl rfl rfl (by kernel_rfl) Try.func6 (by kernel_rfl)
    (of_decide_eq_true (by kernel_rfl)) (by unfold Func.isWrapper; first | (rw [if_pos (by decide +kernel)]; kernel_rfl) | (rw [if_neg (by decide +kernel)]; exact ⟨rfl, rfl⟩))
    (fun os started H enc _ => lifted os started H enc)
theorem proved : Rows.FnExactStartSaid := over
#print axioms proved
end Go.Proofs.Ytmjfkjdfmpileaa.FnExactStart
namespace Go.Proofs.Ytmjfkjdfmpileaa
/-- The row, under a short name, for the claim. -/
theorem fnExactStart_holds : Rows.FnExactStartSaid := FnExactStart.proved
end Go.Proofs.Ytmjfkjdfmpileaa
end
