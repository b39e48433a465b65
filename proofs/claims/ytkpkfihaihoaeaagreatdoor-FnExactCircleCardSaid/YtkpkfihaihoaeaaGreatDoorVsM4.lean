/- Texts put together: Contracts: the reference's next unit of a run. Plain functions: the state at the start. Contracts: roots. Contracts: the reference's state, its Start. Contracts: two runs of the reference are the same. Contracts: the reference does a unit of work of a state. Contracts: two states of the reference are the same. A run of the engine while a unit of work turns it. Contracts: Finish. Contracts: the engine does a unit of work. Contracts: the engine does a unit of work: all but a spent run's. Contracts: two runs of the program are the same. Contracts: two states of the program are the same. Contracts: CheckWeb, the program's and the reference's. Plain functions: a sweep step by step. -/
import Derived.Test.YtkpkfihaihoaeaaGreatDoorVsM3
import Derived.Shelf.Abstract
import Derived.Test.YtkpkfihaihoaeaaGreatDoorShelf
section
set_option linter.unusedVariables false
set_option linter.unusedSimpArgs false
namespace Go.Proofs.YtkpkfihaihoaeaaGreatDoor.M
open Go.RowKit
/-- a run handed back, and what it asks for: both read whatever becomes of the blocks N -/
def NxP (N : List Nat) (p : Run × List ByteArray) (w : World) (e : Ending) (w' : World) : Prop := ∃ tv v', e = .returned (.tuple #[.agg (runCells p.1 tv), v']) ∧ repS N w' (strsT 9 p.1.Texts) tv ∧ repS N w' (strsT 9 p.2) v' ∧ Below w.heap.size w w'
theorem repS.ofN {Z : List Nat} {W w : World} {t : T} {v : Value} (h : M.rep W t v) (hb : Below W.heap.size W w) (hM : ∀ b ∈ Z, W.heap.size ≤ b) : repS Z w t v := repS.of h hb hM
theorem rep_nil (w : World) (t : Nat) (A : Option Addr) (c : Nat) : M.rep w (strsT t []) (.slice A 0 c) := by
 simp only [strsT, tl, M.rep]
 exact ⟨by simp, by simp, A, c, [], rfl, by simp, by simp [M.reps], fun h => by simp at h⟩
/-- on the way: the run's cells at block rb, the action's at ab -/
structure NxM (w : World) (N : List Nat) (rb ob ab : Nat) (r1 : Run) (a : Action) (A2 : Option Addr) (c2 : Nat) (X : World) : Prop where
 run : ∃ tv, X.heap[rb]? = some (.cells (runCells r1 tv) 84 (0, 0)) ∧ repS (rb :: ob :: N) X (strsT 9 r1.Texts) tv
 res : X.heap[ob]? = some (.cells #[.string ⟨#[]⟩, .bool false, .bool false, .string ⟨#[]⟩, .int .i64 0, .int .i64 0, .slice none 0 0] 84 (0, 0))
 act : X.heap[ab]? = some (.cells #[.int .i64 a.Cost, .slice A2 a.Steps.length c2] 111 (0, 0))
 below : Below w.heap.size w X
theorem goOn_follow {W : Web} {R : List Run} {r : Run} (hw : checkWeb W = 0) (hI : Inv W R) (hr : RunOk W r) (hrd : isReady W R r = true) (hv : r.Visits ≠ 0) : goOn (actOf W r.Name) r.At (ansFor W R r) = followS (stepIn (actOf W r.Name) r.At) (ansFor W R r) := by
 have ha := ready_ans hrd hv
 have h0 := hr.vis0
 have hmid := hr.mid (ready_over hrd) (by omega)
 obtain ⟨hi, es⟩ := stepIn_eq hr.at1 hr.at0
 have hact := act_ok hw hr.web
 have hs : stepIn (actOf W r.Name) r.At ∈ (actOf W r.Name).Steps := by rw [es]; exact List.getElem_mem hi
 obtain ⟨a1, a2, a3⟩ := asks_ok (step_ok hact hs)
 have hl := answersOf_len ha
 have hx := answers_text hI.ok a3 ha
 have hat : r.At = ((r.At.toNat : Nat) : Int) := by have := hr.at0; omega
 have e1 : stepOf W r = (actOf W r.Name).Steps[r.At.toNat] := es
 rw [e1] at hl hmid
 rw [es]
 have key := goOn_yes (xs := ansFor W R r) hi hact ?_ hmid hl ?_
 ·rw [← hat] at key; exact key
 ·simp only [inB, decide_eq_true_eq]; omega
 ·rw [List.all_eq_true]; intro y hy; have := hx y hy; simp [textOk]; omega
theorem act_sm {a : Action} (h : actionOk a = true) : a.Sm := by
 intro s hs
 have h1 := step_ok h hs
 unfold Step.Sm
 cases hE : s.End with
 | true => have := (end_ok h1 hE).2.2; omega
 | false =>
  have h2 := (preOk_iff (mid_ok h1 hE).1).2.1
  rw [ByteArray.toList_eq] at h2
  have h3 : s.Give.data.toList.length = 0 := by rw [h2]; rfl
  show s.Give.data.size ≤ _
  rw [← Array.length_toList, h3]
  exact Nat.zero_le _
theorem mem3 {N : List Nat} {rb ob : Nat} : rb ∈ rb :: ob :: N ∧ ob ∈ rb :: ob :: N := ⟨by simp, by simp⟩
set_option maxRecDepth 100000 in
set_option maxHeartbeats 8000000 in
theorem l4Next_calls {t tN tS tC : Nat} (N : List Nat) (W : Web) (x : State) (r : Run) (w W0 : World) {us vs rs : List Value} (hW : reps W0 (W.c tN tS tC) us) (hr : reps W0 (Run.c r) rs) (h0b : Below W0.heap.size W0 w) (hN : ∀ b ∈ N, W0.heap.size ≤ b ∧ b < w.heap.size) (h : reps w (State.c t x) vs) (hw : checkWeb W = 0) (hI : Inv W x.Runs) (hRk : RunOk W r) (hrd : isReady W x.Runs r = true) :
  Calls Tryz.prog 134 #[.agg us.toArray, .agg vs.toArray, .agg rs.toArray] w (NxP N (nextOf W x.Runs r) w) := by
 obtain ⟨v0, rfl, h0⟩ := Web.ropen hW
 obtain ⟨A, c, rfl, _, _⟩ := rep_len h0
 obtain ⟨u0, u1, rfl, g0, g1⟩ := State.ropen h
 obtain ⟨D, k, rfl, _, _⟩ := rep_len g0
 obtain ⟨B, d, rfl, _, _⟩ := rep_len g1
 obtain ⟨v6, rfl, h6⟩ := Run.ropen hr
 obtain ⟨E, e, rfl, _, _⟩ := rep_len h6
 clear hW h hr g0
 obtain ⟨a, ha⟩ : ∃ a, actOf W r.Name = a := ⟨_, rfl⟩
 obtain ⟨na, hna, hN1, hN2⟩ := node_atN hRk.web
 rw [ha] at hN2
 obtain ⟨ad, c', v2, hv, k0, k1, k2, k3, _⟩ := Node.elem h0 hna
 cases hv
 rw [hN2] at k1 k3
 obtain ⟨A2, c2, rfl, _, _⟩ := rep_len k3
 replace hN1 := Asd.mk hN1
 replace h0 := Asd.mk h0
 replace g1 := Asd.mk g1
 replace h6 := Asd.mk h6
 replace k3 := Asd.mk k3
 replace h0b := Asd.mk h0b
 replace hN := Asd.mk hN
 replace hI := Asd.mk hI
 clear k0 hN2
 have hRl : x.Runs.length ≤ 1000000 := by have := hI.out.length hw; have := (checkWeb_ok hw).1; omega
 obtain ⟨X0, eX⟩ : ∃ X : World, X = (((w.alloc (.cells #[.slice (some ad) W.Nodes.length c] 34)).alloc (.cells #[.slice D x.Roots.length k, .slice B x.Runs.length d] 38)).alloc (.cells #[.string r.Name, .bool r.Over, .bool r.Fail, .string r.Text, .int .i64 r.At, .int .i64 r.Visits, .slice E r.Texts.length e] 84)).alloc (.cells #[.string ⟨#[]⟩, .bool false, .bool false, .string ⟨#[]⟩, .int .i64 0, .int .i64 0, .slice none 0 0] 84) := ⟨_, rfl⟩
 have hb0 := Asd.mk (show Below w.heap.size w X0 from eX ▸ by repeat first|with_reducible (first|exact Below.refl _ _|exact Below.refl _ _|refine below_al ?_ _|refine below_dr ?_ _|refine below_d1 ?_)|(with_reducible refine Below.setCell ?_ ?_ _;rotate_left;next => first|(simp;done)|(simp;omega)|omega))
 have a0 : X0.cell? ⟨w.heap.size, 0, none⟩ = some (.slice (some ad) W.Nodes.length c) := by rw [eX]; go_simp
 have b0 : X0.cell? ⟨w.heap.size + 1, 0, none⟩ = some (.slice D x.Roots.length k) := by rw [eX]; go_simp
 have b1 : X0.cell? ⟨w.heap.size + 1, 1, none⟩ = some (.slice B x.Runs.length d) := by rw [eX]; go_simp
 have gR : Asd (X0.heap[w.heap.size + 1 + 1]? = some (.cells (runCells r (.slice E r.Texts.length e)) 84 (0, 0))) := Asd.mk (by
  rw [eX]; refine (heap_alloc_old _ _ (by simp)).trans ?_; simpa [runCells] using heap_alloc_new ((w.alloc (.cells #[.slice (some ad) W.Nodes.length c] 34)).alloc (.cells #[.slice D x.Roots.length k, .slice B x.Runs.length d] 38)) (.cells (runCells r (.slice E r.Texts.length e)) 84))
 have gO : Asd (X0.heap[w.heap.size + 1 + 1 + 1]? = some (.cells #[.string ⟨#[]⟩, .bool false, .bool false, .string ⟨#[]⟩, .int .i64 0, .int .i64 0, .slice none 0 0] 84 (0, 0))) := Asd.mk (by
  rw [eX]; simpa using heap_alloc_new (((w.alloc (.cells #[.slice (some ad) W.Nodes.length c] 34)).alloc (.cells #[.slice D x.Roots.length k, .slice B x.Runs.length d] 38)).alloc (.cells #[.string r.Name, .bool r.Over, .bool r.Fail, .string r.Text, .int .i64 r.At, .int .i64 r.Visits, .slice E r.Texts.length e] 84)) (.cells #[.string ⟨#[]⟩, .bool false, .bool false, .string ⟨#[]⟩, .int .i64 0, .int .i64 0, .slice none 0 0] 84))
 have zX : Asd (X0.heap.size = w.heap.size + 1 + 1 + 1 + 1) := Asd.mk (by rw [eX]; simp)
 have r0 : X0.cell? ⟨w.heap.size + 1 + 1, 0, none⟩ = some (.string r.Name) := cellOf gR.out (i := 0) rfl
 have r4 : X0.cell? ⟨w.heap.size + 1 + 1, 4, none⟩ = some (.int .i64 r.At) := cellOf gR.out (i := 4) rfl
 have r5 : X0.cell? ⟨w.heap.size + 1 + 1, 5, none⟩ = some (.int .i64 r.Visits) := cellOf gR.out (i := 5) rfl
 have hb00 := Asd.mk (below_st h0b.out hb0.out)
 have q1 := cell_below hb00.out k1
 have q2 := cell_below hb00.out k2
 go_enter Tryz.func134, Tryz.ntmps134
 go_upto_region 1 with (fail)
 rw [← eX]
 clear eX
 have hkeep := Asd.mk (show ∀ Y, Below X0.heap.size X0 Y → (Below X0.heap.size X0 Y ∧ Y.cell? ⟨w.heap.size, 0, none⟩ = some (.slice (some ad) W.Nodes.length c) ∧ Y.cell? ⟨w.heap.size + 1 + 1, 0, none⟩ = some (.string r.Name) ∧ Y.cell? ⟨(ad.add (na * 3)).block, (ad.add (na * 3)).off + 1, none⟩ = some (.int .i64 a.Cost) ∧ Y.cell? ⟨(ad.add (na * 3)).block, (ad.add (na * 3)).off + 2, none⟩ = some (.slice A2 a.Steps.length c2)) from fun Y hb => ⟨hb, cell_below hb a0, cell_below hb r0, cell_below hb q1, cell_below hb q2⟩)
 go_cut [8] (fun s8 wx => ∃ ab, s8 = .pointer (some ⟨ab, 0, none⟩) ∧ X0.heap.size ≤ ab ∧ wx.heap[ab]? = some (.cells #[.int .i64 a.Cost, .slice A2 a.Steps.length c2] 111 (0, 0)) ∧ Below X0.heap.size X0 wx)
 case first =>
  have s_0 : Below X0.heap.size X0 X0.drew := (Below.refl _ _).drew
  go_region_held3 (fun Y => Below X0.heap.size X0 Y ∧ Y.cell? ⟨w.heap.size, 0, none⟩ = some (.slice (some ad) W.Nodes.length c) ∧ Y.cell? ⟨w.heap.size + 1 + 1, 0, none⟩ = some (.string r.Name) ∧ Y.cell? ⟨(ad.add (na * 3)).block, (ad.add (na * 3)).off + 1, none⟩ = some (.int .i64 a.Cost) ∧ Y.cell? ⟨(ad.add (na * 3)).block, (ad.add (na * 3)).off + 2, none⟩ = some (.slice A2 a.Steps.length c2)) ((refine hkeep.out _ ?_; (repeat first|with_reducible (first|exact Below.refl _ _|exact s_0|refine below_al ?_ _|refine below_dr ?_ _|refine below_d1 ?_)|(with_reducible refine Below.setCell ?_ ?_ _;rotate_left;next => first|(simp;done)|(simp;omega)|omega))))
   (first | (go_at_call 91; refine (l2At_calls W r.Name _ (Web.rmk W (h0.out.below (below_st hb00.out (show Below X0.heap.size X0 _ from by repeat first|with_reducible (first|exact Below.refl _ _|exact s_0|refine below_al ?_ _|refine below_dr ?_ _|refine below_d1 ?_)|(with_reducible refine Below.setCell ?_ ?_ _;rotate_left;next => first|(simp;done)|(simp;omega)|omega)))))).mono ?_; rw [hN1.out]; rintro e' w2 ⟨rfl, hb⟩; obtain ⟨s_0, s_1, s_2, s_3, s_4⟩ := hkeep.out _ (below_st (show Below X0.heap.size X0 _ from by repeat first|with_reducible (first|exact Below.refl _ _|exact s_0|refine below_al ?_ _|refine below_dr ?_ _|refine below_d1 ?_)|(with_reducible refine Below.setCell ?_ ?_ _;rotate_left;next => first|(simp;done)|(simp;omega)|omega)) hb); obtain ⟨hcx, hfx⟩ := bcell hb; replace hb := Asd.mk hb))
  all_goals (go_wp2_with fail; go_meet)
  ·exact ⟨_, rfl, (s_0).size, heap_alloc_new _ _, by repeat first|with_reducible (first|exact Below.refl _ _|exact s_0|refine below_al ?_ _|refine below_dr ?_ _|refine below_d1 ?_)|(with_reducible refine Below.setCell ?_ ?_ _;rotate_left;next => first|(simp;done)|(simp;omega)|omega)⟩
  ·refine ⟨_, rfl, by omega, ?_, by repeat first|with_reducible (first|exact Below.refl _ _|exact s_0|refine below_al ?_ _|refine below_dr ?_ _|refine below_d1 ?_)|(with_reducible refine Below.setCell ?_ ?_ _;rotate_left;next => first|(simp;done)|(simp;omega)|omega)⟩
   exact heap_set1 (heap_set1 ((hb.out.block _ (by simp)).trans (heap_alloc_new _ _)) 0 _) 1 _
 case rest =>
  obtain ⟨ab, rfl, zab, gA, hbc⟩ := hcut
  replace zX := zX.out
  obtain ⟨xs, hxs⟩ : ∃ xs, ansFor W x.Runs r = xs := ⟨_, rfl⟩
  obtain ⟨X, eX⟩ : ∃ X, X = wc := ⟨_, rfl⟩
  rw [← eX] at gA hbc ⊢
  clear eX wc hkeep q1 q2 k1 k2
  have hbX := Asd.mk (below_st hb0.out hbc)
  have gR1 := Asd.mk ((hbc.block _ (by omega)).trans gR.out)
  have gO1 := Asd.mk ((hbc.block _ (by omega)).trans gO.out)
  replace a0 := cell_below hbc a0
  replace b0 := cell_below hbc b0
  replace b1 := cell_below hbc b1
  replace r0 := cell_below hbc r0
  replace r4 := cell_below hbc r4
  replace r5 := cell_below hbc r5
  obtain ⟨rb, hrb⟩ : ∃ rb, rb = w.heap.size + 1 + 1 := ⟨_, rfl⟩
  obtain ⟨ob, hob⟩ : ∃ ob, ob = w.heap.size + 1 + 1 + 1 := ⟨_, rfl⟩
  rw [← hob] at gO1 ⊢
  rw [← hrb] at gR1 r0 r4 r5 ⊢
  have hV0 := hRk.vis0
  have hV1 := hRk.vis1
  have zX1 : X0.heap.size ≤ X.heap.size := hbc.size
  clear gR gO r0
  have hTx := Asd.mk (show repS (rb :: ob :: N) X (strsT 9 r.Texts) (.slice E r.Texts.length e) from repS.of (h6.out) (below_st h0b.out hbX.out) (fun b hb => by
   rcases List.mem_cons.1 hb with rfl | hb
   ·have := h0b.out.size; omega
   rcases List.mem_cons.1 hb with rfl | hb
   ·have := h0b.out.size; omega
   exact (hN.out b hb).1))
  replace hbc := Asd.mk hbc
  replace gA := Asd.mk gA
  have zrb : rb < X.heap.size := by omega
  have zob : ob < X.heap.size := by omega
  have zro : rb ≠ ob := by omega
  have zwr : w.heap.size ≤ rb := by omega
  have zwo : w.heap.size ≤ ob := by omega
  have zrab : rb < ab := by omega
  have zoab : ob < ab := by omega
  have zw1 : w.heap.size + 1 < X.heap.size := by omega
  have zw0 : w.heap.size < X.heap.size := by omega
  replace hrb := Asd.mk hrb
  replace hob := Asd.mk hob
  replace zX := Asd.mk zX
  go_upto_if 24 with (fail)
  go_cut [] (fun wx => onward a r xs ∧ r.Visits ≠ 20 ∧ NxM w N rb ob ab (midRun a r xs) a A2 c2 wx)
  case first =>
   by_cases hz : r.Visits = 0
   ·rw [hz] at r5
    go_wp2
    go_meet
    refine ⟨.inl hz, by omega, ?_⟩
    rw [show midRun a r xs = r by unfold midRun; rw [if_pos hz]]
    exact ⟨⟨_, gR1.out, hTx.out⟩, gO1.out, gA.out, hbX.out⟩
   have hz1 : 0 < r.Visits := by omega
   have hz2 : decide (0 < r.Visits) = true := by simp [hz1]
   obtain ⟨n, hK1⟩ := stepK hw hRk
   have hlt := hK1.lt
   rw [ha] at hlt
   obtain ⟨ad2, c3, w0, w2', hv, m0, m1, m2, m3, m4, m5, m6, m7, _, _, m8⟩ := Step.elem (k3.out.below (below_st h0b.out hbX.out)) hlt
   cases hv
   replace m8 := Asd.mk m8
   have r4n := r4
   rw [hK1.at_] at r4n
   have s1 := cellOf gA.out (i := 1) rfl
   have hst : Asd (stepOf W r = a.Steps[n]) := Asd.mk (by subst ha; exact hK1.step)
   have hnm := hK1.names
   have hak := hK1.asks
   rw [hst.out] at hnm hak
   have hat := Asd.mk hK1.at_
   clear hK1 r4
   have hkeep := Asd.mk (show ∀ Y, Below X.heap.size X Y → (Below X.heap.size X Y ∧ Y.cell? ⟨w.heap.size, 0, none⟩ = some (.slice (some ad) W.Nodes.length c) ∧ Y.cell? ⟨w.heap.size + 1, 0, none⟩ = some (.slice D x.Roots.length k) ∧ Y.cell? ⟨w.heap.size + 1, 1, none⟩ = some (.slice B x.Runs.length d) ∧ Y.cell? ⟨rb, 4, none⟩ = some (.int .i64 (n : Int)) ∧ Y.cell? ⟨ab, 1, none⟩ = some (.slice (some ad2) a.Steps.length c2) ∧
    Y.cell? (ad2.add (n * 8)) = some w0 ∧ Y.cell? ⟨(ad2.add (n * 8)).block, (ad2.add (n * 8)).off + 1, none⟩ = some (.int .i64 a.Steps[n].On) ∧ Y.cell? ⟨(ad2.add (n * 8)).block, (ad2.add (n * 8)).off + 2, none⟩ = some w2' ∧ Y.cell? ⟨(ad2.add (n * 8)).block, (ad2.add (n * 8)).off + 3, none⟩ = some (.int .i64 a.Steps[n].Else) ∧ Y.cell? ⟨(ad2.add (n * 8)).block, (ad2.add (n * 8)).off + 4, none⟩ = some (.int .i64 a.Steps[n].Fall) ∧ Y.cell? ⟨(ad2.add (n * 8)).block, (ad2.add (n * 8)).off + 5, none⟩ = some (.bool a.Steps[n].End) ∧ Y.cell? ⟨(ad2.add (n * 8)).block, (ad2.add (n * 8)).off + 6, none⟩ = some (.bool a.Steps[n].Bad) ∧ Y.cell? ⟨(ad2.add (n * 8)).block, (ad2.add (n * 8)).off + 7, none⟩ = some (.string a.Steps[n].Give))
    from fun Y hb => ⟨hb, cell_below hb a0, cell_below hb b0, cell_below hb b1, cell_below hb r4n, cell_below hb s1, cell_below hb m0, cell_below hb m1, cell_below hb m2, cell_below hb m3, cell_below hb m4, cell_below hb m5, cell_below hb m6, cell_below hb m7⟩)
   clear a0 b0 b1 r4n s1 m0 m1 m2 m3 m4 m5 m6 m7
   have s_0 : Below X.heap.size X X.drew := (Below.refl _ _).drew
   go_upto_region 3 with (fail)
   refine wp_region_held_drew (S := fun Y => Below X.heap.size X Y ∧ Y.cell? ⟨w.heap.size, 0, none⟩ = some (.slice (some ad) W.Nodes.length c) ∧ Y.cell? ⟨w.heap.size + 1, 0, none⟩ = some (.slice D x.Roots.length k) ∧ Y.cell? ⟨w.heap.size + 1, 1, none⟩ = some (.slice B x.Runs.length d) ∧ Y.cell? ⟨rb, 4, none⟩ = some (.int .i64 (n : Int)) ∧ Y.cell? ⟨ab, 1, none⟩ = some (.slice (some ad2) a.Steps.length c2) ∧
    Y.cell? (ad2.add (n * 8)) = some w0 ∧ Y.cell? ⟨(ad2.add (n * 8)).block, (ad2.add (n * 8)).off + 1, none⟩ = some (.int .i64 a.Steps[n].On) ∧ Y.cell? ⟨(ad2.add (n * 8)).block, (ad2.add (n * 8)).off + 2, none⟩ = some w2' ∧ Y.cell? ⟨(ad2.add (n * 8)).block, (ad2.add (n * 8)).off + 3, none⟩ = some (.int .i64 a.Steps[n].Else) ∧ Y.cell? ⟨(ad2.add (n * 8)).block, (ad2.add (n * 8)).off + 4, none⟩ = some (.int .i64 a.Steps[n].Fall) ∧ Y.cell? ⟨(ad2.add (n * 8)).block, (ad2.add (n * 8)).off + 5, none⟩ = some (.bool a.Steps[n].End) ∧ Y.cell? ⟨(ad2.add (n * 8)).block, (ad2.add (n * 8)).off + 6, none⟩ = some (.bool a.Steps[n].Bad) ∧ Y.cell? ⟨(ad2.add (n * 8)).block, (ad2.add (n * 8)).off + 7, none⟩ = some (.string a.Steps[n].Give)) (by kernel_rfl) (hkeep.out _ s_0) (fun hHeld => ?_)
   (((refine wH 0 (v:=?_) rfl (by kernel_rfl) (fun _ _ _ h => h) (by rfl) ?_ (by assumption) ?_;rotate_left;next => ((intro X hX;(try dsimp only at hX);go_simp);try with_reducible rfl));try simp only [Act.put,List.getElem_toArray,List.getElem_cons_succ,List.getElem_cons_zero,List.setIfInBounds_toArray,List.set_cons_zero,List.set_cons_succ]); ((refine wH 1 (v:=?_) rfl (by kernel_rfl) (fun _ _ _ h => h) (by rfl) ?_ (by assumption) ?_;rotate_left;next => ((intro X hX;(try dsimp only at hX);go_simp);try with_reducible rfl));try simp only [Act.put,List.getElem_toArray,List.getElem_cons_succ,List.getElem_cons_zero,List.setIfInBounds_toArray,List.set_cons_zero,List.set_cons_succ]); ((refine wH 3 (v:=?_) rfl (by kernel_rfl) (fun _ _ _ h => h) (by rfl) ?_ (by assumption) ?_;rotate_left;next => ((intro X hX;(try dsimp only at hX);go_simp);try with_reducible rfl));try simp only [Act.put,List.getElem_toArray,List.getElem_cons_succ,List.getElem_cons_zero,List.setIfInBounds_toArray,List.set_cons_zero,List.set_cons_succ]); ((refine wH 4 (v:=?_) rfl (by kernel_rfl) (fun _ _ _ h => h) (by rfl) ?_ (by assumption) ?_;rotate_left;next => ((intro X hX;(try dsimp only at hX);go_simp);try with_reducible rfl));try simp only [Act.put,List.getElem_toArray,List.getElem_cons_succ,List.getElem_cons_zero,List.setIfInBounds_toArray,List.set_cons_zero,List.set_cons_succ]); ((refine wH 5 (v:=?_) rfl (by kernel_rfl) (fun _ _ _ h => h) (by rfl) ?_ (by assumption) ?_;rotate_left;next => ((intro X hX;(try dsimp only at hX);go_simp);try with_reducible rfl));try simp only [Act.put,List.getElem_toArray,List.getElem_cons_succ,List.getElem_cons_zero,List.setIfInBounds_toArray,List.set_cons_zero,List.set_cons_succ]); ((refine wH 6 (v:=?_) rfl (by kernel_rfl) (fun _ _ _ h => h) (by rfl) ?_ (by assumption) ?_;rotate_left;next => ((intro X hX;(try dsimp only at hX);go_simp);try with_reducible rfl));try simp only [Act.put,List.getElem_toArray,List.getElem_cons_succ,List.getElem_cons_zero,List.setIfInBounds_toArray,List.set_cons_zero,List.set_cons_succ]); ((refine wH 7 (v:=?_) rfl (by kernel_rfl) (fun _ _ _ h => h) (by rfl) ?_ (by assumption) ?_;rotate_left;next => ((intro X hX;(try dsimp only at hX);go_simp);try with_reducible rfl));try simp only [Act.put,List.getElem_toArray,List.getElem_cons_succ,List.getElem_cons_zero,List.setIfInBounds_toArray,List.set_cons_zero,List.set_cons_succ]); ((refine wH 8 (v:=?_) rfl (by kernel_rfl) (fun _ _ _ h => h) (by rfl) ?_ (by assumption) ?_;rotate_left;next => ((intro X hX;(try dsimp only at hX);go_simp);try with_reducible rfl));try simp only [Act.put,List.getElem_toArray,List.getElem_cons_succ,List.getElem_cons_zero,List.setIfInBounds_toArray,List.set_cons_zero,List.set_cons_succ]))
   (refine wpAnyH_ready (rs := [2]) (by kernel_rfl) (by simp) ?_; refine AllReadyH.cons rfl (fun K hK => ?_) AllReadyH.nil)
   go_simp
   refine (l4Known_calls (some ad) B D _ _ _ _ _ _ _).mono ?_
   rintro e' w5 ⟨kb, rfl, y0, y1, hb⟩
   have hb5 := Asd.mk (below_st (show Below X.heap.size X _ from by repeat first|with_reducible (first|exact Below.refl _ _|exact s_0|refine below_al ?_ _|refine below_dr ?_ _|refine below_d1 ?_)|(with_reducible refine Below.setCell ?_ ?_ _;rotate_left;next => first|(simp;done)|(simp;omega)|omega)) hb)
   clear hb
   refine hK.out _ _ (hkeep.out _ hb5.out) (fun hHeld => ?_)
   clear hK K
   (refine wpAnyH_ready (rs := [9]) (by kernel_rfl) (by simp) ?_; refine AllReadyH.cons rfl (fun K hK => ?_) AllReadyH.nil)
   go_simp
   refine (answers3_calls W x.Runs a.Steps[n] kb (some ad) B c d _ y0 y1 (h0.out.below (below_st (below_st h0b.out hbX.out) hb5.out)) (g1.out.below (below_st hbX.out hb5.out)) (m8.out.below hb5.out) hRl hnm (by omega)).mono ?_
   rintro e' w7 ⟨v, rfl, hLx, hb⟩
   have hb7 := Asd.mk (below_st hb5.out hb)
   have hans := Asd.mk (ready_ans hrd hz)
   rw [hst.out, hxs] at hans
   have hLx := Asd.mk (hLx xs hans.out)
   obtain ⟨Ax, cx, rfl, _, _⟩ := hLx.out.slice
   clear hb y0 y1
   refine hK.out _ _ (hkeep.out _ hb7.out) (fun hHeld => ?_)
   clear hK K
   (((refine wH 10 (v:=?_) rfl (by kernel_rfl) (fun _ _ _ h => h) (by rfl) ?_ (by assumption) ?_;rotate_left;next => ((intro X hX;(try dsimp only at hX);go_simp);try with_reducible rfl));try simp only [Act.put,List.getElem_toArray,List.getElem_cons_succ,List.getElem_cons_zero,List.setIfInBounds_toArray,List.set_cons_zero,List.set_cons_succ]); ((refine wH 11 (v:=?_) rfl (by kernel_rfl) (fun _ _ _ h => h) (by rfl) ?_ (by assumption) ?_;rotate_left;next => ((intro X hX;(try dsimp only at hX);go_simp);try with_reducible rfl));try simp only [Act.put,List.getElem_toArray,List.getElem_cons_succ,List.getElem_cons_zero,List.setIfInBounds_toArray,List.set_cons_zero,List.set_cons_succ]); ((refine wH 12 (v:=?_) rfl (by kernel_rfl) (fun _ _ _ h => h) (by rfl) ?_ (by assumption) ?_;rotate_left;next => ((intro X hX;(try dsimp only at hX);go_simp);try with_reducible rfl));try simp only [Act.put,List.getElem_toArray,List.getElem_cons_succ,List.getElem_cons_zero,List.setIfInBounds_toArray,List.set_cons_zero,List.set_cons_succ]); ((refine wH 13 (v:=?_) rfl (by kernel_rfl) (fun _ _ _ h => h) (by rfl) ?_ (by assumption) ?_;rotate_left;next => ((intro X hX;(try dsimp only at hX);go_simp);try with_reducible rfl));try simp only [Act.put,List.getElem_toArray,List.getElem_cons_succ,List.getElem_cons_zero,List.setIfInBounds_toArray,List.set_cons_zero,List.set_cons_succ]); ((refine wH 14 (v:=?_) rfl (by kernel_rfl) (fun _ _ _ h => h) (by rfl) ?_ (by assumption) ?_;rotate_left;next => ((intro X hX;(try dsimp only at hX);go_simp);try with_reducible rfl));try simp only [Act.put,List.getElem_toArray,List.getElem_cons_succ,List.getElem_cons_zero,List.setIfInBounds_toArray,List.set_cons_zero,List.set_cons_succ]))
   refine wpAnyH_done (by kernel_rfl) ?_ _
   have gR7 := Asd.mk ((hb7.out.block rb zrb).trans gR1.out)
   have gO7 := Asd.mk ((hb7.out.block ob zob).trans gO1.out)
   have gA7 := Asd.mk ((hb7.out.block ab (lt_of_heap gA.out)).trans gA.out)
   have hTx7 := Asd.mk (hTx.out.later hb7.out)
   have hbw := Asd.mk (below_st hbX.out hb7.out)
   have z7r : rb < w7.heap.size := lt_of_heap gR7.out
   have z7o : ob < w7.heap.size := lt_of_heap gO7.out
   have z7a : ab < w7.heap.size := lt_of_heap gA7.out
   have t0 : w7.cell? ⟨rb, 0, none⟩ = some (.string r.Name) := cellOf gR7.out (i := 0) rfl
   have t1 : w7.cell? ⟨rb, 1, none⟩ = some (.bool r.Over) := cellOf gR7.out (i := 1) rfl
   have t2 : w7.cell? ⟨rb, 2, none⟩ = some (.bool r.Fail) := cellOf gR7.out (i := 2) rfl
   have t3 : w7.cell? ⟨rb, 3, none⟩ = some (.string r.Text) := cellOf gR7.out (i := 3) rfl
   have t4 : w7.cell? ⟨rb, 4, none⟩ = some (.int .i64 r.At) := cellOf gR7.out (i := 4) rfl
   have t5 : w7.cell? ⟨rb, 5, none⟩ = some (.int .i64 r.Visits) := cellOf gR7.out (i := 5) rfl
   have t6 : w7.cell? ⟨rb, 6, none⟩ = some (.slice E r.Texts.length e) := cellOf gR7.out (i := 6) rfl
   have fr : ∀ o, w7.frozen? ⟨rb, o, none⟩ = false := fun o => frozenOf gR7.out o
   have fo : ∀ o, w7.frozen? ⟨ob, o, none⟩ = false := fun o => frozenOf gO7.out o
   have o0 := cellOf gO7.out (i := 0) rfl
   have o1 := cellOf gO7.out (i := 1) rfl
   have o2 := cellOf gO7.out (i := 2) rfl
   have o3 := cellOf gO7.out (i := 3) rfl
   have o4 := cellOf gO7.out (i := 4) rfl
   have o5 := cellOf gO7.out (i := 5) rfl
   have o6 := cellOf gO7.out (i := 6) rfl
   clear hkeep hb5 hHeld r5
   by_cases hv : r.Visits = 20
   ·have hvb : (r.Visits == 20) = true := by simp [hv]
    have e1 := Asd.mk (nextRun_spent (a := a) (xs := xs) hv)
    replace hv := Asd.mk hv
    go_wp2
    refine bodyPost_ret (v := .tuple #[.agg #[.string r.Name, .bool true, .bool true, .string ⟨#[115, 112, 101, 110, 116]⟩, .int .i64 r.At, .int .i64 r.Visits, .slice E r.Texts.length e], .slice (some ⟨w7.heap.size, 0, none⟩) 0 0]) (by simp [results, Tryz.results134, go_sem, *]) rfl ?_
    refine ⟨.slice E r.Texts.length e, .slice (some ⟨w7.heap.size, 0, none⟩) 0 0, ?_, ?_, ?_, by repeat first|with_reducible (first|exact Below.refl _ _|exact hbw.out|refine below_al ?_ _|refine below_dr ?_ _|refine below_d1 ?_)|(with_reducible refine Below.setCell ?_ ?_ _;rotate_left;next => first|(simp;done)|(simp;omega)|omega)⟩
    ·unfold nextOf; rw [ha, hxs, e1.out]; rfl
    ·unfold nextOf; rw [ha, hxs, e1.out]
     exact (hTx7.out.go (by (with_reducible refine MFr.trans ?_ (MFr.of_below (below_al (Below.refl _ _) _))); ((with_reducible refine MFr.trans ?_ (MFr.of_set _ ?_)); rotate_left; (next => simp)); ((with_reducible refine MFr.trans ?_ (MFr.of_set _ ?_)); rotate_left; (next => simp)); ((with_reducible refine MFr.trans ?_ (MFr.of_set _ ?_)); rotate_left; (next => simp)); ((with_reducible refine MFr.trans ?_ (MFr.of_set _ ?_)); rotate_left; (next => simp)); ((with_reducible refine MFr.trans ?_ (MFr.of_set _ ?_)); rotate_left; (next => simp)); ((with_reducible refine MFr.trans ?_ (MFr.of_set _ ?_)); rotate_left; (next => simp)); ((with_reducible refine MFr.trans ?_ (MFr.of_set _ ?_)); rotate_left; (next => simp)); ((with_reducible refine MFr.trans ?_ (MFr.of_set _ ?_)); rotate_left; (next => simp)); ((with_reducible refine MFr.trans ?_ (MFr.of_set _ ?_)); rotate_left; (next => simp)); ((with_reducible refine MFr.trans ?_ (MFr.of_set _ ?_)); rotate_left; (next => simp)); with_reducible exact MFr.refl _ _)).sub (fun b hb => List.mem_cons_of_mem _ (List.mem_cons_of_mem _ hb))
    ·unfold nextOf; rw [ha, hxs, e1.out]
     exact fun Y _ => rep_nil Y _ _ _
   have hvb : (r.Visits == 20) = false := by simp [hv]
   have hact := act_ok hw hRk.web
   rw [ha] at hact
   have hxt := Asd.mk (show ∀ y ∈ xs, y.Text.size ≤ 200 from by
    obtain ⟨hl1, he1⟩ := stepIn_eq hRk.at1 hRk.at0
    have := answers_text hI.out.ok (fun q hq => (asks_ok (step_ok (act_ok hw hRk.web) (List.getElem_mem hl1))).2.2 q (by have e : stepOf W r = _ := he1; rw [e] at hq; exact hq)) (ready_ans hrd hz)
    rw [hxs] at this; exact this)
   have hxl := Asd.mk (show xs.length ≤ 5 from by have := answersOf_len hans.out; omega)
   have hgo := goOn_follow hw hI.out hRk hrd hz
   rw [ha, hxs] at hgo
   obtain ⟨g, hg⟩ : ∃ g, followS (stepIn a r.At) xs = g := ⟨_, rfl⟩
   rw [hg] at hgo
   replace hgo := Asd.mk hgo
   have s1' := cellOf gA7.out (i := 1) rfl
   have s0' := cellOf gA7.out (i := 0) rfl
   clear hat hHeld
   replace hv := Asd.mk hv
   go_wp2_with fail
   refine (sGoOn_calls a r.At xs _ _ (Action.rmk a ((k3.out.below (below_st h0b.out hbw.out)))) hLx.out.rep (act_sm hact) (fun y hy => by have := hxt.out y hy; omega)).mono ?_
   rw [hgo.out]
   rintro e' w8 ⟨rfl, hb8⟩
   clear t0 t1 t2 t3 t4 t5 t6 fr fo o0 o1 o2 o3 o4 o5 o6 s1' s0'
   have gO8 := Asd.mk ((hb8.block ob z7o).trans gO7.out)
   have gR8 := Asd.mk ((hb8.block rb z7r).trans gR7.out)
   have gA8 := Asd.mk ((hb8.block ab z7a).trans gA7.out)
   have hTx8 := Asd.mk (hTx7.out.later hb8)
   have hbw8 := Asd.mk (below_st hbw.out hb8)
   have hLx8 := Asd.mk (hLx.out.rep.below hb8)
   have z8 : w7.heap.size ≤ w8.heap.size := hb8.size
   clear hb8 gO7 gR7 gA7 hTx7 hbw hLx
   have hV19 : r.Visits ≤ 19 := by have := hv.out; omega
   cases hO : g.Over with
   | true =>
    simp only [goneV, hO]
    have e1 := Asd.mk (nextRun_over (a := a) (xs := xs) hv.out hz (by rw [hg]; exact hO))
    go_upto_region 11 with (fail)
    obtain ⟨Z, eZ⟩ : ∃ Z : World, Z = w8.alloc (.cells #[.int .i64 g.Code, .bool true, .int .i64 g.At, .string g.Text] 177) := ⟨_, rfl⟩
    rw [← eZ]
    have hbZ : Below w8.heap.size w8 Z := eZ ▸ by repeat first|with_reducible (first|exact Below.refl _ _|exact Below.refl _ _|refine below_al ?_ _|refine below_dr ?_ _|refine below_d1 ?_)|(with_reducible refine Below.setCell ?_ ?_ _;rotate_left;next => first|(simp;done)|(simp;omega)|omega)
    have gg3 : Z.cell? ⟨w8.heap.size, 3, none⟩ = some (.string g.Text) := by rw [eZ]; go_simp
    have zg : w8.heap.size < Z.heap.size := by rw [eZ]; simp
    have gRZ := Asd.mk ((hbZ.block rb (by omega)).trans gR8.out)
    have gOZ := Asd.mk ((hbZ.block ob (by omega)).trans gO8.out)
    have hTxZ := Asd.mk (hTx8.out.later hbZ)
    have hbwZ := Asd.mk (below_st hbw8.out hbZ)
    clear eZ hbZ
    have zr8 : rb < w8.heap.size := by omega
    have zo8 : ob < w8.heap.size := by omega
    have zrZ : rb < Z.heap.size := by omega
    have zoZ : ob < Z.heap.size := by omega
    have t0 : Z.cell? ⟨rb, 0, none⟩ = some (.string r.Name) := cellOf gRZ.out (i := 0) rfl
    have t1 : Z.cell? ⟨rb, 1, none⟩ = some (.bool r.Over) := cellOf gRZ.out (i := 1) rfl
    have t2 : Z.cell? ⟨rb, 2, none⟩ = some (.bool r.Fail) := cellOf gRZ.out (i := 2) rfl
    have t3 : Z.cell? ⟨rb, 3, none⟩ = some (.string r.Text) := cellOf gRZ.out (i := 3) rfl
    have t4 : Z.cell? ⟨rb, 4, none⟩ = some (.int .i64 r.At) := cellOf gRZ.out (i := 4) rfl
    have t5 : Z.cell? ⟨rb, 5, none⟩ = some (.int .i64 r.Visits) := cellOf gRZ.out (i := 5) rfl
    have t6 : Z.cell? ⟨rb, 6, none⟩ = some (.slice E r.Texts.length e) := cellOf gRZ.out (i := 6) rfl
    have fr : ∀ o, Z.frozen? ⟨rb, o, none⟩ = false := fun o => frozenOf gRZ.out o
    have fo : ∀ o, Z.frozen? ⟨ob, o, none⟩ = false := fun o => frozenOf gOZ.out o
    have o0 := cellOf gOZ.out (i := 0) rfl
    have o1 := cellOf gOZ.out (i := 1) rfl
    have o2 := cellOf gOZ.out (i := 2) rfl
    have o3 := cellOf gOZ.out (i := 3) rfl
    have o4 := cellOf gOZ.out (i := 4) rfl
    have o5 := cellOf gOZ.out (i := 5) rfl
    have o6 := cellOf gOZ.out (i := 6) rfl
    go_wp2
    refine bodyPost_ret (v := .tuple #[.agg #[.string r.Name, .bool true, .bool true, .string g.Text, .int .i64 r.At, .int .i64 (r.Visits + 1), .slice E r.Texts.length e], .slice (some ⟨Z.heap.size, 0, none⟩) 0 0]) (by simp [results, Tryz.results134, go_sem, *]) rfl ?_
    refine ⟨.slice E r.Texts.length e, .slice (some ⟨Z.heap.size, 0, none⟩) 0 0, ?_, ?_, ?_, by repeat first|with_reducible (first|exact Below.refl _ _|exact hbwZ.out|refine below_al ?_ _|refine below_dr ?_ _|refine below_d1 ?_)|(with_reducible refine Below.setCell ?_ ?_ _;rotate_left;next => first|(simp;done)|(simp;omega)|omega)⟩
    ·unfold nextOf; rw [ha, hxs, e1.out, hg]; rfl
    ·unfold nextOf; rw [ha, hxs, e1.out]
     exact (hTxZ.out.go (by (with_reducible refine MFr.trans ?_ (MFr.of_below (below_al (Below.refl _ _) _))); ((with_reducible refine MFr.trans ?_ (MFr.of_set _ ?_)); rotate_left; (next => simp)); ((with_reducible refine MFr.trans ?_ (MFr.of_set _ ?_)); rotate_left; (next => simp)); ((with_reducible refine MFr.trans ?_ (MFr.of_set _ ?_)); rotate_left; (next => simp)); ((with_reducible refine MFr.trans ?_ (MFr.of_set _ ?_)); rotate_left; (next => simp)); ((with_reducible refine MFr.trans ?_ (MFr.of_set _ ?_)); rotate_left; (next => simp)); ((with_reducible refine MFr.trans ?_ (MFr.of_set _ ?_)); rotate_left; (next => simp)); ((with_reducible refine MFr.trans ?_ (MFr.of_set _ ?_)); rotate_left; (next => simp)); ((with_reducible refine MFr.trans ?_ (MFr.of_set _ ?_)); rotate_left; (next => simp)); ((with_reducible refine MFr.trans ?_ (MFr.of_set _ ?_)); rotate_left; (next => simp)); ((with_reducible refine MFr.trans ?_ (MFr.of_set _ ?_)); rotate_left; (next => simp)); ((with_reducible refine MFr.trans ?_ (MFr.of_set _ ?_)); rotate_left; (next => simp)); with_reducible exact MFr.refl _ _)).sub (fun b hb => List.mem_cons_of_mem _ (List.mem_cons_of_mem _ hb))
    ·unfold nextOf; rw [ha, hxs, e1.out]
     exact fun Y _ => rep_nil Y _ _ _
   | false =>
    simp only [goneV, hO]
    go_upto_region 16 with (fail)
    obtain ⟨Z, eZ⟩ : ∃ Z : World, Z = w8.alloc (.cells #[.int .i64 g.Code, .bool false, .int .i64 g.At, .string g.Text] 177) := ⟨_, rfl⟩
    rw [← eZ]
    have hbZ : Below w8.heap.size w8 Z := eZ ▸ by repeat first|with_reducible (first|exact Below.refl _ _|exact Below.refl _ _|refine below_al ?_ _|refine below_dr ?_ _|refine below_d1 ?_)|(with_reducible refine Below.setCell ?_ ?_ _;rotate_left;next => first|(simp;done)|(simp;omega)|omega)
    have gg2 : Z.cell? ⟨w8.heap.size, 2, none⟩ = some (.int .i64 g.At) := by rw [eZ]; go_simp
    have zg : w8.heap.size < Z.heap.size := by rw [eZ]; simp
    have gRZ := Asd.mk ((hbZ.block rb (by omega)).trans gR8.out)
    have gOZ := Asd.mk ((hbZ.block ob (by omega)).trans gO8.out)
    have gAZ := Asd.mk ((hbZ.block ab (by omega)).trans gA8.out)
    have hTxZ := Asd.mk (hTx8.out.later hbZ)
    have hbwZ := Asd.mk (below_st hbw8.out hbZ)
    have hLxZ := Asd.mk (hLx8.out.below hbZ)
    clear eZ hbZ
    have zrZ : rb < Z.heap.size := by omega
    have zoZ : ob < Z.heap.size := by omega
    have zaZ : ab < Z.heap.size := by omega
    have t4 : Z.cell? ⟨rb, 4, none⟩ = some (.int .i64 r.At) := cellOf gRZ.out (i := 4) rfl
    have t6 : Z.cell? ⟨rb, 6, none⟩ = some (.slice E r.Texts.length e) := cellOf gRZ.out (i := 6) rfl
    have hTl : r.Texts.length ≤ 100 := by have := hRk.many; omega
    go_wp2_with (at_builtin; refine appNew (X := Z) (ys := r.Texts) rfl rfl rfl rfl rfl hTxZ.out.rep (by omega) ?_)
    intro v9 w9 hL9 hB9 hz9
    obtain ⟨A9, d9, rfl, _, _⟩ := hL9.slice
    replace hL9 := Asd.mk hL9
    replace hB9 := Asd.mk hB9
    go_wp2_with fail
    refine (l3Good_calls xs _ _ (hLxZ.out.below hB9.out) (by have := hxl.out; omega)).mono ?_
    rintro e' w10 ⟨v10, rfl, hM10, hb10⟩
    obtain ⟨A10, d10, rfl, _, _⟩ := hM10.lie.slice
    have hr10 := Asd.mk hM10.lie.rep
    have hB10 := Asd.mk (below_st hB9.out hb10)
    have hL10 := Asd.mk (hL9.out.below hb10)
    have hz10 := hB10.out.size
    have hgl := goodT_len xs
    clear hM10 hb10
    go_wp2_with (at_builtin; refine appStrs rfl rfl rfl (lo := Z.heap.size) (wr := w10) (xs := r.Texts) (ys := goodT xs) (by omega) hL10.out (Below.refl _ _) rfl hr10.out (by have := hxl.out; omega) ?_)
    intro v11 w11 hL11 hF11
    obtain ⟨A11, d11, rfl, _, _⟩ := hL11.slice
    rw [List.length_append] at hL11
    have hB11 := Asd.mk (Far.trans hB10.out hF11 (Nat.le_refl _) (by omega))
    replace hL11 := Asd.mk hL11
    have gR11 := Asd.mk ((hB11.out.block rb zrZ).trans gRZ.out)
    have gO11 := Asd.mk ((hB11.out.block ob zoZ).trans gOZ.out)
    have gA11 := Asd.mk ((hB11.out.block ab zaZ).trans gAZ.out)
    have u2 := cell_below hB11.out gg2
    have u4 := cell_below hB11.out t4
    have u6 := cell_below hB11.out t6
    have hz11 := hB11.out.size
    have f4 := frozenOf gR11.out 4
    have f6 := frozenOf gR11.out 6
    clear t4 t6 gg2 hF11
    go_wp2
    go_meet
    refine ⟨.inr (by rw [hg]; exact hO), hv.out, ?_⟩
    rw [show midRun a r xs = { r with Texts := r.Texts ++ goodT xs, At := g.At } by unfold midRun; rw [if_neg hz, hg]]
    refine ⟨⟨.slice A11 (r.Texts.length + (goodT xs).length) d11, ?_, ?_⟩, ?_, ?_, by repeat first|with_reducible (first|exact Below.refl _ _|exact below_st hbwZ.out hB11.out|refine below_al ?_ _|refine below_dr ?_ _|refine below_d1 ?_)|(with_reducible refine Below.setCell ?_ ?_ _;rotate_left;next => first|(simp;done)|(simp;omega)|omega)⟩
    ·exact heap_set1 (heap_set1 gR11.out 6 _) 4 _
    ·obtain ⟨F, f1, f2, f3⟩ := (hL11.out.set (p := ⟨rb, 6, none⟩) zrZ (.slice A11 (r.Texts.length + (goodT xs).length) d11)).set (p := ⟨rb, 4, none⟩) zrZ (.int .i64 g.At)
     refine repS.of_own f1 (fun b hb hb' => ?_)
     have hbl := f3 b hb
     rcases List.mem_cons.1 hb' with rfl | hb'
     ·omega
     rcases List.mem_cons.1 hb' with rfl | hb'
     ·omega
     have := (hN.out b hb').2
     omega
    ·exact (Below.heap_setCell _ _ _ _ (by simp; omega)).trans ((Below.heap_setCell _ _ _ _ (by simp; omega)).trans gO11.out)
    ·exact (Below.heap_setCell _ _ _ _ (by simp; omega)).trans ((Below.heap_setCell _ _ _ _ (by simp; omega)).trans gA11.out)
  case rest =>
   obtain ⟨hon, hv, hM⟩ := hcut
   have hK := midK hw hI.out.ok hRk hrd hv (by rw [ha, hxs]; exact hon)
   have hnx : Asd (nextOf W x.Runs r = arrive a (midRun a r xs)) := Asd.mk (by unfold nextOf; rw [ha, hxs]; exact nextRun_mid hv hon)
   rw [ha, hxs] at hK
   obtain ⟨r1, hr1⟩ : ∃ r1, midRun a r xs = r1 := ⟨_, rfl⟩
   rw [hr1] at hK hM hnx
   obtain ⟨n, hK⟩ := hK
   have hlt := hK.lt
   have hst1 := hK.step
   rw [ha] at hlt
   have hst : Asd (stepIn a r1.At = a.Steps[n]) := Asd.mk (by subst ha; exact hst1)
   obtain ⟨tv, gR2, hT2⟩ := hM.run
   obtain ⟨Bt, dt, rfl, _, _⟩ := rep_len hT2.rep
   obtain ⟨ad2, c3, w0, w2', hv', m0, m1, m2, m3, m4, m5, m6, m7, hk0, hk2, _⟩ := Step.elem k3.out hlt
   cases hv'
   obtain ⟨D0, d0, rfl, _, _⟩ := rep_len hk0
   obtain ⟨D2, d2, rfl, _, _⟩ := rep_len hk2
   clear hk2
   obtain ⟨s, hs⟩ : ∃ s, a.Steps[n] = s := ⟨_, rfl⟩
   rw [hs] at m1 m3 m4 m5 m6 m7 hk0 hst
   have hsm := act_sm (a := a) (by rw [← ha]; exact act_ok hw hRk.web) s (hs ▸ List.getElem_mem hlt)
   unfold Step.Sm at hsm
   obtain ⟨X1, eX⟩ : ∃ X1, X1 = wc := ⟨_, rfl⟩
   rw [← eX] at gR2 hT2 hM ⊢
   clear eX wc
   have hbW := Asd.mk (below_st h0b.out hM.below)
   have hbX1 := Asd.mk hM.below
   have gO2 := Asd.mk hM.res
   have gA2 := Asd.mk hM.act
   have t4 : X1.cell? ⟨rb, 4, none⟩ = some (.int .i64 (n : Int)) := by rw [← hK.at_]; exact cellOf gR2 (i := 4) rfl
   have t5 : X1.cell? ⟨rb, 5, none⟩ = some (.int .i64 r.Visits) := by rw [← hK.vis]; exact cellOf gR2 (i := 5) rfl
   have fr : ∀ o, X1.frozen? ⟨rb, o, none⟩ = false := fun o => frozenOf gR2 o
   have s1 := cellOf gA2.out (i := 1) rfl
   have hV19 := hK.vis1
   have htx := Asd.mk hK.texts
   have hTl := hK.many
   have hat := Asd.mk hK.at_
   have hvs := Asd.mk hK.vis
   have hnm := Asd.mk hK.name
   replace gR2 := Asd.mk gR2
   replace hT2 := Asd.mk hT2
   replace hk0 := Asd.mk hk0
   have z1r : rb < X1.heap.size := lt_of_heap gR2.out
   have z1o : ob < X1.heap.size := lt_of_heap gO2.out
   have z1a : ab < X1.heap.size := lt_of_heap gA2.out
   have zWr : W0.heap.size ≤ rb := by have := h0b.out.size; omega
   have zWo : W0.heap.size ≤ ob := by have := h0b.out.size; omega
   clear hM hK hst1 a0 b0 b1 r4 r5 gR1 gO1 hTx
   have hV1 : (0:Int) ≤ r.Visits + 1 := by omega
   go_upto_region 19 with (fail)
   obtain ⟨X2, eX⟩ : ∃ X2 : World, X2 = X1.setCell ⟨rb, 5, none⟩ (.int .i64 (r.Visits + 1)) := ⟨_, rfl⟩
   rw [← eX]
   have gR3 := Asd.mk (show X2.heap[rb]? = some (.cells (runCells { r1 with Visits := r.Visits + 1 } (.slice Bt r1.Texts.length dt)) 84 (0, 0)) from eX ▸ heap_set1 gR2.out 5 _)
   have gO3 := Asd.mk (show X2.heap[ob]? = _ from eX ▸ (Below.heap_setCell _ _ _ _ (by simp; omega)).trans gO2.out)
   have hT3 := Asd.mk (show repS (rb :: ob :: N) X2 (strsT 9 r1.Texts) (.slice Bt r1.Texts.length dt) from eX ▸ hT2.out.go (by ((with_reducible refine MFr.trans ?_ (MFr.of_set _ ?_)); rotate_left; (next => simp)); with_reducible exact MFr.refl _ _))
   have hbX2 := Asd.mk (show Below w.heap.size w X2 from eX ▸ by repeat first|with_reducible (first|exact Below.refl _ _|exact hbX1.out|refine below_al ?_ _|refine below_dr ?_ _|refine below_d1 ?_)|(with_reducible refine Below.setCell ?_ ?_ _;rotate_left;next => first|(simp;done)|(simp;omega)|omega))
   have hbW2 := Asd.mk (show Below W0.heap.size W0 X2 from eX ▸ by repeat first|with_reducible (first|exact Below.refl _ _|exact hbW.out|refine below_al ?_ _|refine below_dr ?_ _|refine below_d1 ?_)|(with_reducible refine Below.setCell ?_ ?_ _;rotate_left;next => first|(simp;done)|(simp;omega)|omega))
   have s1 : X2.cell? ⟨ab, 1, none⟩ = some (.slice (some ad2) a.Steps.length c2) := by rw [eX]; go_simp
   have t4' : X2.cell? ⟨rb, 4, none⟩ = some (.int .i64 (n : Int)) := by rw [eX]; go_simp
   have z2r : rb < X2.heap.size := by rw [eX]; simpa using z1r
   have z2o : ob < X2.heap.size := by rw [eX]; simpa using z1o
   clear eX t4 t5 fr gR2 gO2 gA2 hT2 hbX1 z1a
   replace m0 := cell_below hbW2.out m0
   replace m1 := cell_below hbW2.out m1
   replace m2 := cell_below hbW2.out m2
   replace m3 := cell_below hbW2.out m3
   replace m4 := cell_below hbW2.out m4
   replace m5 := cell_below hbW2.out m5
   replace m6 := cell_below hbW2.out m6
   replace m7 := cell_below hbW2.out m7
   go_upto_region 20 with (fail)
   obtain ⟨X3, eX⟩ : ∃ X3 : World, X3 = X2.alloc (.cells #[.slice D0 s.Asks.length d0, .int .i64 s.On, .slice D2 s.Cases.length d2, .int .i64 s.Else, .int .i64 s.Fall, .bool s.End, .bool s.Bad, .string s.Give] 121) := ⟨_, rfl⟩
   obtain ⟨sb, hsb⟩ : ∃ sb, sb = X2.heap.size := ⟨_, rfl⟩
   rw [← eX, ← hsb]
   have hb23 : Below X2.heap.size X2 X3 := eX ▸ by repeat first|with_reducible (first|exact Below.refl _ _|exact Below.refl _ _|refine below_al ?_ _|refine below_dr ?_ _|refine below_d1 ?_)|(with_reducible refine Below.setCell ?_ ?_ _;rotate_left;next => first|(simp;done)|(simp;omega)|omega)
   have y0 : X3.cell? ⟨sb, 0, none⟩ = some (.slice D0 s.Asks.length d0) := by rw [eX, hsb]; go_simp
   have y5 : X3.cell? ⟨sb, 5, none⟩ = some (.bool s.End) := by rw [eX, hsb]; go_simp
   have y6 : X3.cell? ⟨sb, 6, none⟩ = some (.bool s.Bad) := by rw [eX, hsb]; go_simp
   have y7 : X3.cell? ⟨sb, 7, none⟩ = some (.string s.Give) := by rw [eX, hsb]; go_simp
   have gR4 := Asd.mk ((hb23.block rb z2r).trans gR3.out)
   have gO4 := Asd.mk ((hb23.block ob z2o).trans gO3.out)
   have hT4 := Asd.mk (hT3.out.later hb23)
   have hbX3 := Asd.mk (below_st hbX2.out hb23)
   have hbW3 := Asd.mk (below_st hbW2.out hb23)
   have zsr : rb < sb := by omega
   have zso : ob < sb := by omega
   have zs3 : sb < X3.heap.size := World.block_lt_of_cell? _ _ y0
   clear eX hsb hb23 m0 m1 m2 m3 m4 m5 m6 m7 s1 t4' gR3 gO3 hT3 hbX2 hbW2
   cases hE : s.End with
   | true =>
    rw [hE] at y5
    have t6 : X3.cell? ⟨rb, 6, none⟩ = some (.slice Bt r1.Texts.length dt) := cellOf gR4.out (i := 6) rfl
    have t1 : X3.cell? ⟨rb, 1, none⟩ = some (.bool r1.Over) := cellOf gR4.out (i := 1) rfl
    have t2 : X3.cell? ⟨rb, 2, none⟩ = some (.bool r1.Fail) := cellOf gR4.out (i := 2) rfl
    have fr : ∀ o, X3.frozen? ⟨rb, o, none⟩ = false := fun o => frozenOf gR4.out o
    go_upto_region 23 with (fail)
    obtain ⟨X4, eX⟩ : ∃ X4 : World, X4 = (X3.setCell ⟨rb, 1, none⟩ (.bool true)).setCell ⟨rb, 2, none⟩ (.bool s.Bad) := ⟨_, rfl⟩
    rw [← eX]
    have gR5 := Asd.mk (show X4.heap[rb]? = some (.cells (runCells { r1 with Visits := r.Visits + 1, Over := true, Fail := s.Bad } (.slice Bt r1.Texts.length dt)) 84 (0, 0)) from eX ▸ heap_set1 (heap_set1 gR4.out 1 _) 2 _)
    have gO5 := Asd.mk (show X4.heap[ob]? = _ from eX ▸ (Below.heap_setCell _ _ _ _ (by simp; omega)).trans ((Below.heap_setCell _ _ _ _ (by simp; omega)).trans gO4.out))
    have hT5 := Asd.mk (show repS (rb :: ob :: N) X4 (strsT 9 r1.Texts) (.slice Bt r1.Texts.length dt) from eX ▸ hT4.out.go (by ((with_reducible refine MFr.trans ?_ (MFr.of_set _ ?_)); rotate_left; (next => simp)); ((with_reducible refine MFr.trans ?_ (MFr.of_set _ ?_)); rotate_left; (next => simp)); with_reducible exact MFr.refl _ _))
    have hbX4 := Asd.mk (show Below w.heap.size w X4 from eX ▸ by repeat first|with_reducible (first|exact Below.refl _ _|exact hbX3.out|refine below_al ?_ _|refine below_dr ?_ _|refine below_d1 ?_)|(with_reducible refine Below.setCell ?_ ?_ _;rotate_left;next => first|(simp;done)|(simp;omega)|omega))
    have hbW4 := Asd.mk (show Below W0.heap.size W0 X4 from eX ▸ by repeat first|with_reducible (first|exact Below.refl _ _|exact hbW3.out|refine below_al ?_ _|refine below_dr ?_ _|refine below_d1 ?_)|(with_reducible refine Below.setCell ?_ ?_ _;rotate_left;next => first|(simp;done)|(simp;omega)|omega))
    have u0 : X4.cell? ⟨sb, 0, none⟩ = some (.slice D0 s.Asks.length d0) := by rw [eX]; go_simp
    have u7 : X4.cell? ⟨sb, 7, none⟩ = some (.string s.Give) := by rw [eX]; go_simp
    have u6 : X4.cell? ⟨rb, 6, none⟩ = some (.slice Bt r1.Texts.length dt) := cellOf gR5.out (i := 6) rfl
    have z4r : rb < X4.heap.size := lt_of_heap gR5.out
    have z4o : ob < X4.heap.size := lt_of_heap gO5.out
    have z4s : sb < X4.heap.size := World.block_lt_of_cell? _ _ u0
    clear eX y0 y5 y6 y7 t1 t2 t6 fr gR4 gO4 hT4 hbX3 hbW3 zs3
    go_wp2_with fail
    refine (sFinish_calls s.Give r1.Texts _ _ hT5.out.rep hsm (fun y hy => by have := htx.out y hy; omega)).mono ?_
    rintro e' w5 ⟨rfl, hb5⟩
    have gR6 := Asd.mk ((hb5.block rb z4r).trans gR5.out)
    have gO6 := Asd.mk ((hb5.block ob z4o).trans gO5.out)
    have hT6 := Asd.mk (hT5.out.later hb5)
    have hbX5 := Asd.mk (below_st hbX4.out hb5)
    have hbW5 := Asd.mk (below_st hbW4.out hb5)
    replace u0 := cell_below hb5 u0
    have z5r : rb < w5.heap.size := lt_of_heap gR6.out
    have z5o : ob < w5.heap.size := lt_of_heap gO6.out
    have z5s : sb < w5.heap.size := World.block_lt_of_cell? _ _ u0
    clear hb5 u7 u6 gR5 gO5 hT5 hbX4 hbW4 z4r z4o z4s
    have t0 : w5.cell? ⟨rb, 0, none⟩ = some (.string r1.Name) := cellOf gR6.out (i := 0) rfl
    have t1 : w5.cell? ⟨rb, 1, none⟩ = some (.bool true) := cellOf gR6.out (i := 1) rfl
    have t2 : w5.cell? ⟨rb, 2, none⟩ = some (.bool s.Bad) := cellOf gR6.out (i := 2) rfl
    have t3 : w5.cell? ⟨rb, 3, none⟩ = some (.string r1.Text) := cellOf gR6.out (i := 3) rfl
    have t4 : w5.cell? ⟨rb, 4, none⟩ = some (.int .i64 r1.At) := cellOf gR6.out (i := 4) rfl
    have t5 : w5.cell? ⟨rb, 5, none⟩ = some (.int .i64 (r.Visits + 1)) := cellOf gR6.out (i := 5) rfl
    have t6 : w5.cell? ⟨rb, 6, none⟩ = some (.slice Bt r1.Texts.length dt) := cellOf gR6.out (i := 6) rfl
    have fr : ∀ o, w5.frozen? ⟨rb, o, none⟩ = false := fun o => frozenOf gR6.out o
    have fo : ∀ o, w5.frozen? ⟨ob, o, none⟩ = false := fun o => frozenOf gO6.out o
    have o0 := cellOf gO6.out (i := 0) rfl
    have o1 := cellOf gO6.out (i := 1) rfl
    have o2 := cellOf gO6.out (i := 2) rfl
    have o3 := cellOf gO6.out (i := 3) rfl
    have o4 := cellOf gO6.out (i := 4) rfl
    have o5 := cellOf gO6.out (i := 5) rfl
    have o6 := cellOf gO6.out (i := 6) rfl
    go_wp2
    go_region
    go_wp2
    refine bodyPost_ret (v := .tuple #[.agg #[.string r1.Name, .bool true, .bool s.Bad, .string (finish s.Give r1.Texts), .int .i64 r1.At, .int .i64 (r.Visits + 1), .slice Bt r1.Texts.length dt], .slice D0 s.Asks.length d0]) (by simp [results, Tryz.results134, go_sem, *]) rfl ?_
    refine ⟨.slice Bt r1.Texts.length dt, .slice D0 s.Asks.length d0, ?_, ?_, ?_, by repeat first|with_reducible (first|exact Below.refl _ _|exact hbX5.out|refine below_al ?_ _|refine below_dr ?_ _|refine below_d1 ?_)|(with_reducible refine Below.setCell ?_ ?_ _;rotate_left;next => first|(simp;done)|(simp;omega)|omega)⟩
    ·rw [hnx.out]; unfold arrive; rw [hst.out, hE, hvs.out]; rfl
    ·rw [hnx.out]; unfold arrive; rw [hst.out, hE]
     exact (hT6.out.go (by (with_reducible refine MFr.trans ?_ (MFr.of_below (below_d1 (Below.refl _ _)))); ((with_reducible refine MFr.trans ?_ (MFr.of_set _ ?_)); rotate_left; (next => simp)); ((with_reducible refine MFr.trans ?_ (MFr.of_set _ ?_)); rotate_left; (next => simp)); ((with_reducible refine MFr.trans ?_ (MFr.of_set _ ?_)); rotate_left; (next => simp)); ((with_reducible refine MFr.trans ?_ (MFr.of_set _ ?_)); rotate_left; (next => simp)); ((with_reducible refine MFr.trans ?_ (MFr.of_set _ ?_)); rotate_left; (next => simp)); ((with_reducible refine MFr.trans ?_ (MFr.of_set _ ?_)); rotate_left; (next => simp)); ((with_reducible refine MFr.trans ?_ (MFr.of_set _ ?_)); rotate_left; (next => simp)); ((with_reducible refine MFr.trans ?_ (MFr.of_set _ ?_)); rotate_left; (next => simp)); with_reducible exact MFr.refl _ _)).sub (fun b hb => List.mem_cons_of_mem _ (List.mem_cons_of_mem _ hb))
    ·rw [hnx.out]; unfold arrive; rw [hst.out]
     exact repS.of hk0.out (by repeat first|with_reducible (first|exact Below.refl _ _|exact hbW5.out|refine below_al ?_ _|refine below_dr ?_ _|refine below_d1 ?_)|(with_reducible refine Below.setCell ?_ ?_ _;rotate_left;next => first|(simp;done)|(simp;omega)|omega)) (fun b hb => (hN.out b hb).1)
   | false =>
    rw [hE] at y5
    have t0 : X3.cell? ⟨rb, 0, none⟩ = some (.string r1.Name) := cellOf gR4.out (i := 0) rfl
    have t1 : X3.cell? ⟨rb, 1, none⟩ = some (.bool r1.Over) := cellOf gR4.out (i := 1) rfl
    have t2 : X3.cell? ⟨rb, 2, none⟩ = some (.bool r1.Fail) := cellOf gR4.out (i := 2) rfl
    have t3 : X3.cell? ⟨rb, 3, none⟩ = some (.string r1.Text) := cellOf gR4.out (i := 3) rfl
    have t4 : X3.cell? ⟨rb, 4, none⟩ = some (.int .i64 r1.At) := cellOf gR4.out (i := 4) rfl
    have t5 : X3.cell? ⟨rb, 5, none⟩ = some (.int .i64 (r.Visits + 1)) := cellOf gR4.out (i := 5) rfl
    have t6 : X3.cell? ⟨rb, 6, none⟩ = some (.slice Bt r1.Texts.length dt) := cellOf gR4.out (i := 6) rfl
    have fo : ∀ o, X3.frozen? ⟨ob, o, none⟩ = false := fun o => frozenOf gO4.out o
    have o0 := cellOf gO4.out (i := 0) rfl
    have o1 := cellOf gO4.out (i := 1) rfl
    have o2 := cellOf gO4.out (i := 2) rfl
    have o3 := cellOf gO4.out (i := 3) rfl
    have o4 := cellOf gO4.out (i := 4) rfl
    have o5 := cellOf gO4.out (i := 5) rfl
    have o6 := cellOf gO4.out (i := 6) rfl
    go_wp2
    go_region
    go_wp2
    refine bodyPost_ret (v := .tuple #[.agg #[.string r1.Name, .bool r1.Over, .bool r1.Fail, .string r1.Text, .int .i64 r1.At, .int .i64 (r.Visits + 1), .slice Bt r1.Texts.length dt], .slice D0 s.Asks.length d0]) (by simp [results, Tryz.results134, go_sem, *]) rfl ?_
    refine ⟨.slice Bt r1.Texts.length dt, .slice D0 s.Asks.length d0, ?_, ?_, ?_, by repeat first|with_reducible (first|exact Below.refl _ _|exact hbX3.out|refine below_al ?_ _|refine below_dr ?_ _|refine below_d1 ?_)|(with_reducible refine Below.setCell ?_ ?_ _;rotate_left;next => first|(simp;done)|(simp;omega)|omega)⟩
    ·rw [hnx.out]; unfold arrive; rw [hst.out, hE, hvs.out]; rfl
    ·rw [hnx.out]; unfold arrive; rw [hst.out, hE]
     exact (hT4.out.go (by (with_reducible refine MFr.trans ?_ (MFr.of_below (below_d1 (Below.refl _ _)))); ((with_reducible refine MFr.trans ?_ (MFr.of_set _ ?_)); rotate_left; (next => simp)); ((with_reducible refine MFr.trans ?_ (MFr.of_set _ ?_)); rotate_left; (next => simp)); ((with_reducible refine MFr.trans ?_ (MFr.of_set _ ?_)); rotate_left; (next => simp)); ((with_reducible refine MFr.trans ?_ (MFr.of_set _ ?_)); rotate_left; (next => simp)); ((with_reducible refine MFr.trans ?_ (MFr.of_set _ ?_)); rotate_left; (next => simp)); ((with_reducible refine MFr.trans ?_ (MFr.of_set _ ?_)); rotate_left; (next => simp)); ((with_reducible refine MFr.trans ?_ (MFr.of_set _ ?_)); rotate_left; (next => simp)); with_reducible exact MFr.refl _ _)).sub (fun b hb => List.mem_cons_of_mem _ (List.mem_cons_of_mem _ hb))
    ·rw [hnx.out]; unfold arrive; rw [hst.out]
     exact repS.of hk0.out (by repeat first|with_reducible (first|exact Below.refl _ _|exact hbW3.out|refine below_al ?_ _|refine below_dr ?_ _|refine below_d1 ?_)|(with_reducible refine Below.setCell ?_ ?_ _;rotate_left;next => first|(simp;done)|(simp;omega)|omega)) (fun b hb => (hN.out b hb).1)
end Go.Proofs.YtkpkfihaihoaeaaGreatDoor.M
end
section
set_option linter.unusedVariables false
set_option linter.unusedSimpArgs false
namespace Go.Proofs.YtkpkfihaihoaeaaGreatDoor.M
open Go.RowKit
def startS (W : Web) (roots : List ByteArray) : State := if checkWeb W = 0 ∧ rootsOk roots = true then ⟨roots, begin_ W roots⟩ else ⟨[], []⟩
theorem begin_fresh {W : Web} {roots : List ByteArray} {r : Run} (h : r ∈ begin_ W roots) : ∃ q, r = newRun q ∧ hasN W.Nodes q = true := by
 rcases mem_wants _ h with h | ⟨q, _, rfl, hq⟩
 ·cases h
 ·exact ⟨q, rfl, hq⟩
theorem begin_asc (W : Web) (roots : List ByteArray) : AscR (begin_ W roots) := wants_asc _ AscR.nil
theorem asc_sub_len0 : ∀ {a b : List ByteArray}, Asc a → Asc b → (∀ x ∈ a, x ∈ b) → a.length ≤ b.length
 | [], _, _, _, _ => Nat.zero_le _
 | x :: a, [], _, _, h => by have := h x (List.mem_cons_self ..); cases this
 | x :: a, y :: b, ha, hb, h => by
  obtain ⟨h1, h2⟩ := List.pairwise_cons.1 ha
  obtain ⟨k1, k2⟩ := List.pairwise_cons.1 hb
  rw [List.length_cons, List.length_cons]
  refine Nat.succ_le_succ (asc_sub_len0 h2 k2 fun z hz => ?_)
  rcases List.mem_cons.1 (h z (List.mem_cons_of_mem _ hz)) with rfl | hz'
  ·exfalso
   have hx := h1 z hz
   rcases List.mem_cons.1 (h x (List.mem_cons_self ..)) with rfl | hxb
   ·rw [ltS_irr] at hx; cases hx
   ·rw [ltS_asymm (k1 x hxb)] at hx; cases hx
  ·exact hz'
theorem begin_len {W : Web} (hw : checkWeb W = 0) (roots : List ByteArray) : (begin_ W roots).length ≤ W.Nodes.length := by
 obtain ⟨_, _, h3, _⟩ := checkWeb_ok hw
 have := asc_sub_len0 (begin_asc W roots) (ascB_asc h3) (fun x hx => by
  obtain ⟨r, hr, rfl⟩ := List.mem_map.1 hx
  obtain ⟨q, rfl, hq⟩ := begin_fresh hr
  obtain ⟨n, hn, e⟩ := (hasN_iff _ _).1 hq
  exact List.mem_map.2 ⟨n, hn, e⟩)
 simpa using this
theorem rootsOk_le {roots : List ByteArray} (h : rootsOk roots = true) : roots.length ≤ 10 := by
 simp only [rootsOk, Bool.and_eq_true, inB, decide_eq_true_eq] at h; omega
theorem mades_zero {w w' : World} : Mades w w' (State.c 84 ⟨[], []⟩) [.slice none 0 0, .slice none 0 0] :=
 ⟨[] ++ [], State.omk (x := ⟨[], []⟩) (own_nil _ _ _) (own_nil _ _ _), by simp, fun k hk => by simp at hk⟩
end Go.Proofs.YtkpkfihaihoaeaaGreatDoor.M
end
section
set_option linter.unusedVariables false
set_option linter.unusedSimpArgs false
namespace Go.Proofs.YtkpkfihaihoaeaaGreatDoor.M
open Go.RowKit
theorem rootsOk_len {xs : List ByteArray} (h : inB xs.length 1 10 = false) : rootsOk xs = false := by unfold rootsOk; rw [h]; rfl
theorem rootsOk_no {xs : List ByteArray} (h : namesOk xs = false) : rootsOk xs = false := by unfold rootsOk; rw [h]; simp
theorem rootsOk_yes {xs : List ByteArray} (h : inB xs.length 1 10 = true) (h2 : namesOk xs = true) : rootsOk xs = true := by unfold rootsOk; rw [h, h2]; rfl
set_option maxRecDepth 100000 in
set_option maxHeartbeats 1000000 in
theorem goodRoots_calls {t : Nat} (xs : List ByteArray) (v : Value) (w : World) (h : rep w (strsT t xs) v) :
  Calls Tryz.prog 81 #[v] w fun e w' => e = .returned (.bool (rootsOk xs)) ∧ w = w' := by
 obtain ⟨A, c, rfl, hc, hn⟩ := rep_len h
 by_cases q : inB xs.length 1 10 = true
 rotate_left
 ·have q := Bool.eq_false_iff.2 q
  have e1 := Asd.mk (rootsOk_len q)
  go_enter Tryz.func81, Tryz.ntmps81
  go_wp2_with (first | (go_at_call 118; refine (in_calls _ _ _ _).mono ?_; rintro e w' ⟨rfl, rfl⟩))
  go_ret
  exact ⟨by rw [e1.out]; rfl, rfl⟩
 have Q := Asd.mk q
 replace h := Asd.mk h
 go_enter Tryz.func81, Tryz.ntmps81
 go_wp2_with (first | (go_at_call 118; refine (in_calls _ _ _ _).mono ?_; rintro e w' ⟨rfl, rfl⟩))
 go_loop [11] (fun i => ∃ k : Nat, k ≤ xs.length ∧ i = .int .i64 k ∧ nmTo xs k) (fun i => xs.length - (intOf i).toNat)
 case atStart => exact ⟨0, by omega, rfl, nmTo_zero _⟩
 case round =>
  obtain ⟨k, hk, rfl, hA⟩ := hrel
  by_cases hlt : k < xs.length
  ·obtain ⟨a, c', he, hcell⟩ := str_elem h.out hlt
   cases he
   have ht := rep_take h.out (fun _ => rfl) hk
   by_cases hx : nameOk xs[k] = true
   ·by_cases hy : xs[k] ∈ xs.take k
    ·have e1 := Asd.mk (rootsOk_no (namesOk_not hlt (.inr hy)))
     go_wp2_with (first | (go_at_call 143; refine (goodName_calls _ _).mono ?_; rintro e w' ⟨rfl, rfl⟩) | (go_at_call 145; refine (Contains_calls _ _ _ _ ht).mono ?_; rintro e w' ⟨rfl, rfl⟩))
     go_ret
     exact ⟨by rw [e1.out]; rfl, rfl⟩
    ·have e1 := nmTo_succ hA hlt hx hy
     go_wp2_with (first | (go_at_call 143; refine (goodName_calls _ _).mono ?_; rintro e w' ⟨rfl, rfl⟩) | (go_at_call 145; refine (Contains_calls _ _ _ _ ht).mono ?_; rintro e w' ⟨rfl, rfl⟩))
     go_round
     case rel => exact ⟨k + 1, by omega, by go_num, e1⟩
     case measure => simp [intOf]; omega
   ·have hx := Bool.eq_false_iff.2 hx
    have e1 := Asd.mk (rootsOk_no (namesOk_not hlt (.inl hx)))
    go_wp2_with (first | (go_at_call 143; refine (goodName_calls _ _).mono ?_; rintro e w' ⟨rfl, rfl⟩))
    go_ret
    exact ⟨by rw [e1.out]; rfl, rfl⟩
  ·obtain rfl : k = xs.length := by omega
   have e1 := Asd.mk (rootsOk_yes Q.out ((namesOk_iff _).2 hA))
   go_wp2
   go_ret
   exact ⟨by rw [e1.out]; rfl, rfl⟩
set_option maxRecDepth 100000 in
set_option maxHeartbeats 1000000 in
theorem l3RootsOk_calls {t : Nat} (xs : List ByteArray) (v : Value) (w : World) (h : rep w (strsT t xs) v) :
  Calls Tryz.prog 68 #[v] w fun e w' => e = .returned (.bool (rootsOk xs)) ∧ Below w.heap.size w w' := by
 obtain ⟨A, c, rfl, hc, hn⟩ := rep_len h
 replace h := Asd.mk h
 by_cases q : inB xs.length 1 10 = true
 rotate_left
 ·have q := Bool.eq_false_iff.2 q
  have e1 := Asd.mk (rootsOk_len q)
  go_enter Tryz.func68, Tryz.ntmps68
  go_wp2_with (first | (go_at_call 113; refine (l1In_calls _ _ _ _).mono ?_; rintro e w' ⟨rfl, rfl⟩))
  go_ret
  exact ⟨by rw [e1.out]; rfl, Below.refl _ _⟩
 have e1 := Asd.mk (show rootsOk xs = namesOk xs by unfold rootsOk; rw [q]; rfl)
 go_enter Tryz.func68, Tryz.ntmps68
 go_wp2_with (first | (go_at_call 113; refine (l1In_calls _ _ _ _).mono ?_; rintro e w' ⟨rfl, rfl⟩))
 refine (l1Names_calls xs _ _ h.out).mono ?_
 rintro e w1 ⟨rfl, hb⟩
 go_wp2
 go_ret
 exact ⟨by rw [e1.out]; rfl, hb⟩
end Go.Proofs.YtkpkfihaihoaeaaGreatDoor.M
end
section
set_option linter.unusedVariables false
set_option linter.unusedSimpArgs false
attribute [local go_sem ↓] Go.wp_at_zero Go.wp_at_succ
namespace Go.Proofs.YtkpkfihaihoaeaaGreatDoor.M
open Go.RowKit
/-- a state handed back that reads as s, whatever becomes of what was there -/
def StR (s : State) (w : World) (e : Ending) (w' : World) : Prop := ∃ v0 v1, e = .returned (.agg #[v0, v1]) ∧ repsS (List.range w.heap.size) w' (State.c 84 s) [v0, v1] ∧ Below w.heap.size w w'
def sortTo (l : List Run) (k : Nat) : List Run := (l.take k).foldl putL []
theorem sortTo_zero (l : List Run) : sortTo l 0 = [] := rfl
theorem sortTo_succ {l : List Run} {k : Nat} (h : k < l.length) : sortTo l (k + 1) = putL (sortTo l k) l[k] := by
 unfold sortTo; rw [List.take_succ_eq_append_getElem h, List.foldl_append]; rfl
theorem sortTo_end (l : List Run) : sortTo l l.length = sortR l := by unfold sortTo sortR; rw [List.take_length]
theorem setR_length (r : Run) (R : List Run) : (setR r R).length = R.length := by simp [setR]
theorem putL_length {R : List Run} (h : AscR R) (r : Run) : (putL R r).length ≤ R.length + 1 := by
 rw [putL_eq h]
 cases runOf R r.Name with
 | some _ => simp [setR_length]
 | none => simp [insR_length]
theorem sortTo_len (l : List Run) : ∀ k, (sortTo l k).length ≤ k
 | 0 => by simp [sortTo_zero]
 | k + 1 => by
  rcases Nat.lt_or_ge k l.length with h | h
  ·rw [sortTo_succ h]
   have := putL_length (sortR_asc (l.take k)) l[k]
   have h2 := sortTo_len l k
   unfold sortTo at h2 ⊢
   unfold sortR at this
   omega
  ·have e : sortTo l (k + 1) = sortTo l k := by unfold sortTo; rw [List.take_of_length_le (by omega), List.take_of_length_le (by omega)]
   rw [e]; have := sortTo_len l k; omega
set_option maxRecDepth 100000 in
set_option maxHeartbeats 4000000 in
theorem l3State_calls {tR ts : Nat} (roots : List ByteArray) (l : List Run) (v u : Value) (w : World) (hv : rep w (strsT ts roots) v) (h : rep w (RunsT tR l) u) (hl : l.length ≤ 100000) (hr : roots.length ≤ 1000000) (hT : ∀ r ∈ l, r.Texts.length ≤ 1000000) :
  Calls Tryz.prog 93 #[v, u] w (StR ⟨roots, sortR l⟩ w) := by
 obtain ⟨A, c, rfl, _, _⟩ := rep_len hv
 obtain ⟨B, d, rfl, _, _⟩ := rep_len h
 replace h := Asd.mk h
 replace hv := Asd.mk hv
 go_enter Tryz.func93, Tryz.ntmps93
 go_upto_region 1 with (fail)
 obtain ⟨X, eX⟩ : ∃ X : World, X = w.alloc (.cells #[.slice none 0 0, .slice none 0 0] 38) := ⟨_, rfl⟩
 rw [← eX]
 have hbX := Asd.mk (show Below w.heap.size w X from eX ▸ below_al (Below.refl _ _) _)
 have hX := Asd.mk (show X.heap[w.heap.size]? = _ from eX ▸ heap_alloc_new _ _)
 have zX : w.heap.size < X.heap.size := by rw [eX]; simp
 clear eX
 go_wp2_with (at_builtin; refine appNew rfl rfl rfl rfl rfl (hv.out.below hbX.out) hr ?_)
 intro v1 w1 hL1 hb1 hz1
 obtain ⟨B1, d1, rfl, _, _⟩ := hL1.slice
 go_upto_region 2 with (fail)
 have hbX2 := Asd.mk (show Below w.heap.size w (w1.alloc (.cells #[.slice B1 roots.length d1, .slice none 0 0] 38)) from below_al (below_st hbX.out hb1) _)
 have g2 := Asd.mk (heap_alloc_new w1 (.cells #[.slice B1 roots.length d1, .slice none 0 0] 38))
 have gO := Asd.mk ((below_al hb1 (.cells #[.slice B1 roots.length d1, .slice none 0 0] 38)).block _ zX |>.trans hX.out)
 have hL2 := Asd.mk (show ∃ F, own (w1.alloc (.cells #[.slice B1 roots.length d1, .slice none 0 0] 38)) (strsT 9 roots) (.slice B1 roots.length d1) F ∧ ∀ b ∈ F, b ≠ w1.heap.size ∧ w.heap.size + 1 ≤ b from by
  obtain ⟨F, f1, f2, f3⟩ := hL1
  exact ⟨F, f1.below (below_al (Below.refl _ _) _), fun b hb => by have := f1.lt b hb; have := f3 b hb; omega⟩)
 have hzz : w1.heap.size < (w1.alloc (.cells #[.slice B1 roots.length d1, .slice none 0 0] 38)).heap.size := by simp
 obtain ⟨X2, eX⟩ : ∃ X2 : World, X2 = w1.alloc (.cells #[.slice B1 roots.length d1, .slice none 0 0] 38) := ⟨_, rfl⟩
 rw [← eX] at hbX2 g2 gO hL2 hzz ⊢
 clear eX hb1 hL1
 obtain ⟨ob, hob⟩ : ∃ ob, ob = w1.heap.size := ⟨_, rfl⟩
 rw [← hob] at g2 hzz hL2 ⊢
 have zo : X.heap.size < ob := by omega
 clear hob hz1
 go_wp2
 go_loopw [6] (fun i wr => ∃ (k : Nat) (rv : Value), k ≤ l.length ∧ i = .int .i64 k ∧ wr.heap[ob]? = some (.cells #[.slice B1 roots.length d1, rv] 38 (0, 0)) ∧ RowN (ob :: List.range (w.heap.size + 1)) X2.heap.size wr 84 7 (sortTo l k).length ((sortTo l k).flatMap Run.c) rv ∧ MFr [ob] X2 wr) (fun i _ => l.length - (intOf i).toNat)
 case atStart => exact ⟨0, _, by omega, rfl, g2.out, RowN.nil _ _ _ _ _, MFr.refl _ _⟩
 case round =>
  obtain ⟨k, rv, hk, rfl, gr, hR, hm⟩ := hrel
  have hbr := Asd.mk (MFr.upon hm hbX2.out (Nat.le_refl _) (fun b hb => by simp at hb; omega))
  have hzr := hm.size
  by_cases hlt : k < l.length
  ·obtain ⟨a, c', v6, he, k0, k1, k2, k3, k4, k5, k6, hk6, hkr⟩ := Run.elem h.out hlt
   cases he
   obtain ⟨Ct, et, rfl, _, _⟩ := rep_len hk6
   have e1 := Asd.mk (sortTo_succ hlt)
   have hll := sortTo_len l k
   have htl := hT l[k] (List.getElem_mem hlt)
   obtain ⟨acc, hacc⟩ : ∃ acc, sortTo l k = acc := ⟨_, rfl⟩
   rw [hacc] at hR e1 hll
   clear hacc hk6
   obtain ⟨Ar, dr, rfl, _⟩ := hR.slice
   have hkr2 := Asd.mk (hkr.below hbr.out)
   clear hkr
   have q0 := cell_below hbr.out k0
   have q1 := cell_below hbr.out k1
   have q2 := cell_below hbr.out k2
   have q3 := cell_below hbr.out k3
   have q4 := cell_below hbr.out k4
   have q5 := cell_below hbr.out k5
   have q6 := cell_below hbr.out k6
   clear k0 k1 k2 k3 k4 k5 k6
   have qr := cellOf gr (i := 1) rfl
   have hRs := Asd.mk (show repS (ob :: List.range (w.heap.size + 1)) wr (RunsT 84 acc) (.slice Ar acc.length dr) from hR.repS (fun b hb => by have := hR.lo b hb; simp; omega))
   replace gr := Asd.mk gr
   replace hm := Asd.mk hm
   have hlo := Asd.mk hR.lo
   clear hR
   go_wp2_with fail
   refine wp_region_G (last := 8) (S := fun Z => Z.cell? ⟨ob, 1, none⟩ = some (.slice Ar acc.length dr) ∧ Z.cell? (a.add (k * 7)) = some (.string l[k].Name) ∧ Z.cell? ⟨(a.add (k * 7)).block, (a.add (k * 7)).off + 1, none⟩ = some (.bool l[k].Over) ∧ Z.cell? ⟨(a.add (k * 7)).block, (a.add (k * 7)).off + 2, none⟩ = some (.bool l[k].Fail) ∧ Z.cell? ⟨(a.add (k * 7)).block, (a.add (k * 7)).off + 3, none⟩ = some (.string l[k].Text) ∧ Z.cell? ⟨(a.add (k * 7)).block, (a.add (k * 7)).off + 4, none⟩ = some (.int .i64 l[k].At) ∧ Z.cell? ⟨(a.add (k * 7)).block, (a.add (k * 7)).off + 5, none⟩ = some (.int .i64 l[k].Visits) ∧ Z.cell? ⟨(a.add (k * 7)).block, (a.add (k * 7)).off + 6, none⟩ = some (.slice Ct l[k].Texts.length et)) (by kernel_rfl) ?_
   have hH : wr.drew.cell? ⟨ob, 1, none⟩ = some (.slice Ar acc.length dr) ∧ wr.drew.cell? (a.add (k * 7)) = some (.string l[k].Name) ∧ wr.drew.cell? ⟨(a.add (k * 7)).block, (a.add (k * 7)).off + 1, none⟩ = some (.bool l[k].Over) ∧ wr.drew.cell? ⟨(a.add (k * 7)).block, (a.add (k * 7)).off + 2, none⟩ = some (.bool l[k].Fail) ∧ wr.drew.cell? ⟨(a.add (k * 7)).block, (a.add (k * 7)).off + 3, none⟩ = some (.string l[k].Text) ∧ wr.drew.cell? ⟨(a.add (k * 7)).block, (a.add (k * 7)).off + 4, none⟩ = some (.int .i64 l[k].At) ∧ wr.drew.cell? ⟨(a.add (k * 7)).block, (a.add (k * 7)).off + 5, none⟩ = some (.int .i64 l[k].Visits) ∧ wr.drew.cell? ⟨(a.add (k * 7)).block, (a.add (k * 7)).off + 6, none⟩ = some (.slice Ct l[k].Texts.length et) := ⟨qr, q0, q1, q2, q3, q4, q5, q6⟩
   (((refine wG 0 (v:=?_) rfl rfl (by kernel_rfl) (fun _ _ _ h => h) (by rfl) ?_ (by assumption) ?_;rotate_left;next => ((intro X hX;(try dsimp only at hX);go_simp);try with_reducible rfl));try simp only [Act.put,List.getElem_toArray,List.getElem_cons_succ,List.getElem_cons_zero,List.setIfInBounds_toArray,List.set_cons_zero,List.set_cons_succ]); ((refine wG 1 (v:=?_) rfl rfl (by kernel_rfl) (fun _ _ _ h => h) (by rfl) ?_ (by assumption) ?_;rotate_left;next => ((intro X hX;(try dsimp only at hX);go_simp);try with_reducible rfl));try simp only [Act.put,List.getElem_toArray,List.getElem_cons_succ,List.getElem_cons_zero,List.setIfInBounds_toArray,List.set_cons_zero,List.set_cons_succ]); ((refine wG 2 (v:=?_) rfl rfl (by kernel_rfl) (fun _ _ _ h => h) (by rfl) ?_ (by assumption) ?_;rotate_left;next => ((intro X hX;(try dsimp only at hX);go_simp);try with_reducible rfl));try simp only [Act.put,List.getElem_toArray,List.getElem_cons_succ,List.getElem_cons_zero,List.setIfInBounds_toArray,List.set_cons_zero,List.set_cons_succ]); ((refine wG 3 (v:=?_) rfl rfl (by kernel_rfl) (fun _ _ _ h => h) (by rfl) ?_ (by assumption) ?_;rotate_left;next => ((intro X hX;(try dsimp only at hX);go_simp);try with_reducible rfl));try simp only [Act.put,List.getElem_toArray,List.getElem_cons_succ,List.getElem_cons_zero,List.setIfInBounds_toArray,List.set_cons_zero,List.set_cons_succ]); ((refine wG 4 (v:=?_) rfl rfl (by kernel_rfl) (fun _ _ _ h => h) (by rfl) ?_ (by assumption) ?_;rotate_left;next => ((intro X hX;(try dsimp only at hX);go_simp);try with_reducible rfl));try simp only [Act.put,List.getElem_toArray,List.getElem_cons_succ,List.getElem_cons_zero,List.setIfInBounds_toArray,List.set_cons_zero,List.set_cons_succ]); ((refine wG 5 (v:=?_) rfl rfl (by kernel_rfl) (fun _ _ _ h => h) (by rfl) ?_ (by assumption) ?_;rotate_left;next => ((intro X hX;(try dsimp only at hX);go_simp);try with_reducible rfl));try simp only [Act.put,List.getElem_toArray,List.getElem_cons_succ,List.getElem_cons_zero,List.setIfInBounds_toArray,List.set_cons_zero,List.set_cons_succ]))
   (refine wpG_one (i := 6) (by kernel_rfl) rfl (fun K hK => ?_))
   go_simp
   refine (l4Put_calls (N := (ob :: List.range (w.heap.size + 1))) acc l[k] _ _ (hRs.out.later (by repeat first|with_reducible (first|exact Below.refl _ _|exact Below.refl _ _|refine below_al ?_ _|refine below_dr ?_ _|refine below_d1 ?_)|(with_reducible refine Below.setCell ?_ ?_ _;rotate_left;next => first|(simp;done)|(simp;omega)|omega))) (fun b hb => by have := hlo.out b hb; simp; omega) (hkr2.out.below (by repeat first|with_reducible (first|exact Below.refl _ _|exact Below.refl _ _|refine below_al ?_ _|refine below_dr ?_ _|refine below_d1 ?_)|(with_reducible refine Below.setCell ?_ ?_ _;rotate_left;next => first|(simp;done)|(simp;omega)|omega))) (fun b hb => by simp at hb; simp; omega) (by omega) htl).mono ?_
   rintro e w7 ⟨v7, rfl, hR7, hb7⟩
   obtain ⟨A7, d7, rfl, _⟩ := hR7.slice
   have hb8 := Asd.mk (show Below wr.heap.size wr w7 from below_st (by repeat first|with_reducible (first|exact Below.refl _ _|exact Below.refl _ _|refine below_al ?_ _|refine below_dr ?_ _|refine below_d1 ?_)|(with_reducible refine Below.setCell ?_ ?_ _;rotate_left;next => first|(simp;done)|(simp;omega)|omega)) hb7)
   clear hb7
   have p1 := cell_below hb8.out qr
   have p7 := (hb8.out.block ob (by omega)).trans gr.out
   have pf := frozenOf p7 1
   replace p7 := Asd.mk p7
   replace hR7 := Asd.mk hR7
   refine hK.out _ _ (fun _ => ⟨p1, cell_below hb8.out q0, cell_below hb8.out q1, cell_below hb8.out q2, cell_below hb8.out q3, cell_below hb8.out q4, cell_below hb8.out q5, cell_below hb8.out q6⟩) ?_
   clear hK K hH
   (try simp only [Act.put, List.setIfInBounds_toArray, List.set_cons_zero, List.set_cons_succ])
   have hH : w7.cell? ⟨ob, 1, none⟩ = some (.slice Ar acc.length dr) ∧ w7.cell? (a.add (k * 7)) = some (.string l[k].Name) ∧ w7.cell? ⟨(a.add (k * 7)).block, (a.add (k * 7)).off + 1, none⟩ = some (.bool l[k].Over) ∧ w7.cell? ⟨(a.add (k * 7)).block, (a.add (k * 7)).off + 2, none⟩ = some (.bool l[k].Fail) ∧ w7.cell? ⟨(a.add (k * 7)).block, (a.add (k * 7)).off + 3, none⟩ = some (.string l[k].Text) ∧ w7.cell? ⟨(a.add (k * 7)).block, (a.add (k * 7)).off + 4, none⟩ = some (.int .i64 l[k].At) ∧ w7.cell? ⟨(a.add (k * 7)).block, (a.add (k * 7)).off + 5, none⟩ = some (.int .i64 l[k].Visits) ∧ w7.cell? ⟨(a.add (k * 7)).block, (a.add (k * 7)).off + 6, none⟩ = some (.slice Ct l[k].Texts.length et) := ⟨p1, cell_below hb8.out q0, cell_below hb8.out q1, cell_below hb8.out q2, cell_below hb8.out q3, cell_below hb8.out q4, cell_below hb8.out q5, cell_below hb8.out q6⟩
   (((refine wG 7 (v:=?_) rfl rfl (by kernel_rfl) (fun _ _ _ h => h) (by rfl) ?_ (by assumption) ?_;rotate_left;next => ((intro X hX;(try dsimp only at hX);go_simp);try with_reducible rfl));try simp only [Act.put,List.getElem_toArray,List.getElem_cons_succ,List.getElem_cons_zero,List.setIfInBounds_toArray,List.set_cons_zero,List.set_cons_succ]))
   (refine wpG_one (i := 8) (by kernel_rfl) rfl (fun K hK => ?_))
   go_simp
   refine hK.out _ _ (fun h => absurd rfl h) ?_
   clear hK K hH
   refine wpG_done (by kernel_rfl) ?_ _
   go_wp2
   go_roundw
   case rel =>
    refine ⟨k + 1, .slice A7 (putL acc l[k]).length d7, by omega, by go_num, by simpa using heap_set1 p7.out 1 (.slice A7 (putL acc l[k]).length d7), ?_, (hm.out.trans (MFr.of_below hb8.out)).trans (MFr.of_set _ (by simp))⟩
    rw [e1.out]
    exact (hR7.out.mono (by simp; omega)).go ((MFr.of_set (F := [ob]) _ (by simp)).mono (fun b hb => by simp at hb; simp [hb])) (fun b hb => by have := hR7.out.lo b hb; simp at this; simp; omega)
   case measure => simp [intOf]; omega
  ·obtain rfl : k = l.length := by omega
   have e1 := Asd.mk (sortTo_end l)
   obtain ⟨Ar, dr, rfl, _⟩ := hR.slice
   have q0 := cellOf gr (i := 0) rfl
   have q1 := cellOf gr (i := 1) rfl
   have p7 := (hm.block _ (by omega) (by simp; omega)).trans gO.out
   have o0 := cellOf p7 (i := 0) rfl
   have o1 := cellOf p7 (i := 1) rfl
   have pf0 := frozenOf p7 0
   have pf1 := frozenOf p7 1
   replace p7 := Asd.mk p7
   have hroots := Asd.mk (show repS (ob :: List.range (w.heap.size + 1)) wr (strsT 9 roots) (.slice B1 roots.length d1) from by
    obtain ⟨F, f1, f2⟩ := hL2.out
    exact repS.of_own (hm.own f1 (fun b hb => by simpa using (f2 b hb).1)) (fun b hb => by simpa using f2 b hb))
   have hruns := Asd.mk (show repS (ob :: List.range (w.heap.size + 1)) wr (RunsT 84 (sortTo l l.length)) (.slice Ar (sortTo l l.length).length dr) from hR.repS (fun b hb => by have := hR.lo b hb; simp; omega))
   replace hm := Asd.mk hm
   clear hR gr
   go_wp2
   refine bodyPost_ret (v := .agg #[.slice B1 roots.length d1, .slice Ar (sortTo l l.length).length dr]) (by simp [results, Tryz.results93, go_sem, *]) rfl ?_
   refine ⟨_, _, rfl, ?_, by repeat first|with_reducible (first|exact Below.refl _ _|exact hbr.out|refine below_al ?_ _|refine below_dr ?_ _|refine below_d1 ?_)|(with_reducible refine Below.setCell ?_ ?_ _;rotate_left;next => first|(simp;done)|(simp;omega)|omega)⟩
   rw [← e1.out]
   intro w2 h2
   have h3 := (MFr.trans (MFr.of_set _ (by simp)) (MFr.of_set _ (by simp))).trans (h2.mono (G := ob :: List.range (w.heap.size + 1)) (fun b hb => by simp at hb ⊢; omega))
   exact State.rmk ⟨roots, sortTo l l.length⟩ (hroots.out _ h3) (hruns.out _ h3)
theorem mem_wantsU {W : Web} {r : Run} : ∀ (qs : List ByteArray) (l : List Run), r ∈ wantsU W l qs → r ∈ l ∨ ∃ q, r = newRun q
 | [], l, h => .inl h
 | q :: qs, l, h => by
  rcases mem_wantsU qs (wantU W l q) h with h1 | h1
  ·unfold wantU at h1
   split at h1
   ·rcases List.mem_append.1 h1 with h2 | h2
    ·exact .inl h2
    ·exact .inr ⟨q, by simpa using h2⟩
   ·exact .inl h1
  ·exact .inr h1
theorem StR.zero {W : Web} {roots : List ByteArray} {w w' : World} (e1 : startS W roots = ⟨[], []⟩) (hb : Below w.heap.size w w') : StR (startS W roots) w (.returned (.agg #[.slice none 0 0, .slice none 0 0])) w' := by
 rw [e1]
 exact ⟨_, _, rfl, fun w2 _ => State.rmk ⟨[], []⟩ (own_nil _ _ _).rep (own_nil _ _ _).rep, hb⟩
set_option maxRecDepth 100000 in
set_option maxHeartbeats 2000000 in
theorem sStart_calls {tN tS tC ts : Nat} (W : Web) (roots : List ByteArray) (v : Value) (w : World) {vs : List Value} (h : reps w (W.c tN tS tC) vs) (hv : rep w (strsT ts roots) v) (hz : W.Sm) :
  Calls Tryz.prog 69 #[.agg vs.toArray, v] w (StR (startS W roots) w) := by
 obtain ⟨v0, rfl, h0⟩ := Web.ropen h
 obtain ⟨A, c, rfl, _, _⟩ := rep_len h0
 obtain ⟨B, d, rfl, _, _⟩ := rep_len hv
 clear h
 replace h0 := Asd.mk h0
 replace hv := Asd.mk hv
 have HB := Asd.mk (below_al (below_al (Below.refl w.heap.size w) (.cells #[.slice A W.Nodes.length c] 34)) (.cells #[.slice none 0 0, .slice none 0 0] 38))
 by_cases q1 : checkWeb W = 0
 rotate_left
 ·have e1 := Asd.mk (show startS W roots = ⟨[], []⟩ by rw [startS, if_neg (by simp [q1])])
  obtain ⟨n, hn⟩ : ∃ n, checkWeb W = n := ⟨_, rfl⟩
  have q2 : decide (n = 0) = false := by simp [← hn, q1]
  go_enter Tryz.func69, Tryz.ntmps69
  go_wp2_with fail
  refine (sCheckWeb_calls W _ (Web.rmk W (h0.out.below HB.out)) hz).mono ?_
  rintro e w1 ⟨rfl, hb⟩
  rw [hn]
  replace q1 : n ≠ 0 := hn ▸ q1
  clear hn
  obtain ⟨hcx, hfx⟩ := bcell hb
  have hzz : w.heap.size + 1 < w1.heap.size := by have := hb.size; simp at this; omega
  have HW := Asd.mk (below_st HB.out hb)
  clear hb
  go_wp2
  refine bodyPost_ret (v := .agg #[.slice none 0 0, .slice none 0 0]) (by simp [results, Tryz.results69, go_sem, *]) rfl ?_
  exact StR.zero e1.out (by repeat first|with_reducible (first|exact Below.refl _ _|exact HW.out|refine below_al ?_ _|refine below_dr ?_ _|refine below_d1 ?_)|(with_reducible refine Below.setCell ?_ ?_ _;rotate_left;next => first|(simp;done)|(simp;omega)|omega))
 by_cases q2 : rootsOk roots = true
 rotate_left
 ·have e1 := Asd.mk (show startS W roots = ⟨[], []⟩ by rw [startS, if_neg (by simp [q2])])
  replace q2 := Bool.eq_false_iff.2 q2
  go_enter Tryz.func69, Tryz.ntmps69
  go_wp2_with fail
  refine (sCheckWeb_calls W _ (Web.rmk W (h0.out.below HB.out)) hz).mono ?_
  rintro e w1 ⟨rfl, hb⟩
  rw [q1]
  obtain ⟨hcx, hfx⟩ := bcell hb
  have hzz : w.heap.size + 1 < w1.heap.size := by have := hb.size; simp at this; omega
  have HW := Asd.mk (below_st HB.out hb)
  clear hb
  go_wp2_with fail
  refine (l3RootsOk_calls roots _ _ (hv.out.below HW.out)).mono ?_
  rintro e w2 ⟨rfl, hb⟩
  obtain ⟨hcx2, hfx2⟩ := bcell hb
  have hzz2 : w.heap.size + 1 < w2.heap.size := by have := hb.size; omega
  have HW2 := Asd.mk (below_st HW.out hb)
  clear hb
  go_wp2
  refine bodyPost_ret (v := .agg #[.slice none 0 0, .slice none 0 0]) (by simp [results, Tryz.results69, go_sem, *]) rfl ?_
  exact StR.zero e1.out (by repeat first|with_reducible (first|exact Below.refl _ _|exact HW2.out|refine below_al ?_ _|refine below_dr ?_ _|refine below_d1 ?_)|(with_reducible refine Below.setCell ?_ ?_ _;rotate_left;next => first|(simp;done)|(simp;omega)|omega))
 have e1 := Asd.mk (show startS W roots = ⟨roots, sortR (wantsU W [] roots)⟩ by rw [startS, if_pos ⟨q1, q2⟩, sort_begin])
 obtain ⟨hl, _, hA2, _⟩ := checkWeb_ok q1
 have hrl := rootsOk_le q2
 go_enter Tryz.func69, Tryz.ntmps69
 go_wp2_with fail
 refine (sCheckWeb_calls W _ (Web.rmk W (h0.out.below HB.out)) hz).mono ?_
 rintro e w1 ⟨rfl, hb⟩
 rw [q1]
 obtain ⟨hcx, hfx⟩ := bcell hb
 have hzz : w.heap.size + 1 < w1.heap.size := by have := hb.size; simp at this; omega
 have HW := Asd.mk (below_st HB.out hb)
 clear hb
 go_wp2_with fail
 refine (l3RootsOk_calls roots _ _ (hv.out.below HW.out)).mono ?_
 rintro e w2 ⟨rfl, hb⟩
 obtain ⟨hcx2, hfx2⟩ := bcell hb
 have hzz2 : w.heap.size + 1 < w2.heap.size := by have := hb.size; omega
 have HW2 := Asd.mk (below_st HW.out hb)
 clear hb
 have c0 : w2.cell? ⟨w.heap.size, 0, none⟩ = some (.slice A W.Nodes.length c) := by
  rw [hcx2 _ _ (by omega), hcx _ _ (by simp; omega)]; go_simp
 have c1 : w2.cell? ⟨w.heap.size + 1, 0, none⟩ = some (.slice none 0 0) := by
  rw [hcx2 _ _ (by omega), hcx _ _ (by simp)]; go_simp
 have c2 : w2.cell? ⟨w.heap.size + 1, 1, none⟩ = some (.slice none 0 0) := by
  rw [hcx2 _ _ (by omega), hcx _ _ (by simp)]; go_simp
 have f1 : w2.frozen? ⟨w.heap.size + 1, 0, none⟩ = false := by
  rw [hfx2 _ _ (by omega), hfx _ _ (by simp)]; go_simp
 have f2 : w2.frozen? ⟨w.heap.size + 1, 1, none⟩ = false := by
  rw [hfx2 _ _ (by omega), hfx _ _ (by simp)]; go_simp
 clear hcx hfx hcx2 hfx2
 go_wp2_with fail
 refine (want3_calls (lo := w2.heap.size) W [] roots w2.heap.size A B c d (.slice none 0 0) _ ⟨heap_alloc_new _ _, RowN.nil _ _ _ _ _, fun k hk => by cases hk⟩ (repS.of (h0.out.below HW2.out) (by repeat first|with_reducible (first|exact Below.refl _ _|exact Below.refl _ _|refine below_al ?_ _|refine below_dr ?_ _|refine below_d1 ?_)|(with_reducible refine Below.setCell ?_ ?_ _;rotate_left;next => first|(simp;done)|(simp;omega)|omega)) (fun b hb => by simp [Value.ownBlock] at hb; omega)) (repS.of (hv.out.below HW2.out) (by repeat first|with_reducible (first|exact Below.refl _ _|exact Below.refl _ _|refine below_al ?_ _|refine below_dr ?_ _|refine below_d1 ?_)|(with_reducible refine Below.setCell ?_ ?_ _;rotate_left;next => first|(simp;done)|(simp;omega)|omega)) (fun b hb => by simp [Value.ownBlock] at hb; omega)) (by simp) (by omega) (by simp)).mono ?_
 rintro e w3 ⟨rfl, rv, hK, hm, hrv⟩
 have HW3 := Asd.mk (MFr.upon hm (show Below w.heap.size w _ from by repeat first|with_reducible (first|exact Below.refl _ _|exact HW2.out|refine below_al ?_ _|refine below_dr ?_ _|refine below_d1 ?_)|(with_reducible refine Below.setCell ?_ ?_ _;rotate_left;next => first|(simp;done)|(simp;omega)|omega)) (Nat.le_refl _) (fun b hb => by simp [Value.ownBlock] at hb; have := HW2.out.size; omega))
 have hb3 := MFr.upon hm (show Below w2.heap.size w2 _ from by repeat first|with_reducible (first|exact Below.refl _ _|exact Below.refl _ _|refine below_al ?_ _|refine below_dr ?_ _|refine below_d1 ?_)|(with_reducible refine Below.setCell ?_ ?_ _;rotate_left;next => first|(simp;done)|(simp;omega)|omega)) (Nat.le_refl _) (fun b hb => by simp [Value.ownBlock] at hb; omega)
 have hzz3 := hb3.size
 replace c1 := cell_below hb3 c1
 replace c2 := cell_below hb3 c2
 replace f1 := (hb3.frozen (p := ⟨w.heap.size + 1, 0, none⟩) (by simp; omega)).trans f1
 replace f2 := (hb3.frozen (p := ⟨w.heap.size + 1, 1, none⟩) (by simp; omega)).trans f2
 clear c0 hb3 hm hrv
 obtain ⟨Ar, dr, rfl, _⟩ := hK.row.slice
 have g1 := cellOf hK.cells (i := 1) rfl
 have hruns := Asd.mk (show rep w3 (RunsT 84 (wantsU W [] roots)) _ from hK.row.row.rep)
 have hlr : (wantsU W [] roots).length ≤ 100000 := by
  have := wuTo_len W [] roots roots.length
  rw [wuTo_end] at this
  simp at this; omega
 clear hK
 go_wp2_with fail
 refine (l3State_calls roots (wantsU W [] roots) _ _ _ (hv.out.below (by repeat first|with_reducible (first|exact Below.refl _ _|exact HW3.out|refine below_al ?_ _|refine below_dr ?_ _|refine below_d1 ?_)|(with_reducible refine Below.setCell ?_ ?_ _;rotate_left;next => first|(simp;done)|(simp;omega)|omega))) (hruns.out.below (by repeat first|with_reducible (first|exact Below.refl _ _|exact Below.refl _ _|refine below_al ?_ _|refine below_dr ?_ _|refine below_d1 ?_)|(with_reducible refine Below.setCell ?_ ?_ _;rotate_left;next => first|(simp;done)|(simp;omega)|omega))) hlr (by omega) (fun r hr => by
  rcases mem_wantsU _ _ hr with h | ⟨q, rfl⟩
  ·cases h
  ·simp [newRun])).mono ?_
 rintro e w4 ⟨v0, v1, rfl, hs, hb4⟩
 obtain ⟨_, _, he, p0, p1⟩ := State.ropen hs.reps
 obtain ⟨A0, d0, rfl, _, _⟩ := rep_len p0
 obtain ⟨A1, d1, rfl, _, _⟩ := rep_len p1
 cases he
 have hb5 : Below w3.heap.size w3 w4 := below_st (by repeat first|with_reducible (first|exact Below.refl _ _|exact Below.refl _ _|refine below_al ?_ _|refine below_dr ?_ _|refine below_d1 ?_)|(with_reducible refine Below.setCell ?_ ?_ _;rotate_left;next => first|(simp;done)|(simp;omega)|omega)) hb4
 have HW4 := Asd.mk (below_st HW3.out hb5)
 have hs4 := Asd.mk (hs.sub (N := List.range w3.heap.size) (fun b hb => by simp at hb ⊢; omega))
 replace c1 := cell_below hb5 c1
 replace c2 := cell_below hb5 c2
 replace f1 := (hb5.frozen (p := ⟨w.heap.size + 1, 0, none⟩) (by simp; omega)).trans f1
 replace f2 := (hb5.frozen (p := ⟨w.heap.size + 1, 1, none⟩) (by simp; omega)).trans f2
 have hzz5 := hb5.size
 clear hb4 hb5 hs p0 p1 g1
 dsimp only
 go_wp2
 refine bodyPost_ret (v := .agg #[.slice A0 roots.length d0, .slice A1 (sortR (wantsU W [] roots)).length d1]) (by simp [results, Tryz.results69, go_sem, *]) rfl ?_
 rw [e1.out]
 refine ⟨_, _, rfl, fun w2 h2 => hs4.out w2 ?_, by repeat first|with_reducible (first|exact Below.refl _ _|exact HW4.out|refine below_al ?_ _|refine below_dr ?_ _|refine below_d1 ?_)|(with_reducible refine Below.setCell ?_ ?_ _;rotate_left;next => first|(simp;done)|(simp;omega)|omega)⟩
 exact (MFr.trans (MFr.of_set _ (by simp; omega)) (MFr.of_set _ (by simp; omega))).trans (h2.mono (fun b hb => by simp at hb ⊢; omega))
end Go.Proofs.YtkpkfihaihoaeaaGreatDoor.M
end
section
set_option linter.unusedVariables false
set_option linter.unusedSimpArgs false
namespace Go.Proofs.YtkpkfihaihoaeaaGreatDoor.M
open Go.RowKit
theorem eqB_int3 (a b : Int) : (a == b) = eqB a b := by unfold eqB; by_cases h : a = b <;> simp [h]

set_option maxHeartbeats 1000000 in
theorem l4SameTexts_calls {t t' : Nat} (xs ys : List ByteArray) (v u : Value) (w : World) (h : rep w (strsT t xs) v) (h' : rep w (strsT t' ys) u) :
  Calls Tryz.prog 136 #[v, u] w fun e w' => e = .returned (.bool (eqB xs ys)) ∧ Below w.heap.size w w' := by
 obtain ⟨A, c, rfl, hc, hn⟩ := rep_len h
 obtain ⟨A', c', rfl, hc', hn'⟩ := rep_len h'
 replace h := Asd.mk h
 replace h' := Asd.mk h'
 by_cases hl : xs.length = ys.length
 rotate_left
 ·have e1 := Hid.mk' (eqB_no (fun e => hl (congrArg List.length e)) : eqB xs ys = false)
  have hb : ((xs.length : Int) != (ys.length : Int)) = true := by simp; omega
  replace hl := Hid.mk' hl
  go_enter Tryz.func136, Tryz.ntmps136
  go_wp2
  go_ret
  exact ⟨by rw [e1.out]; rfl, Below.refl _ _⟩
 have hb : ((xs.length : Int) != (ys.length : Int)) = false := by simp; omega
 replace hl := Hid.mk' hl
 go_enter Tryz.func136, Tryz.ntmps136
 go_wp2
 go_loopw [5] (fun i wr => ∃ k : Nat, k ≤ xs.length ∧ i = .int .i64 k ∧ eqTo xs ys k ∧ Below w.heap.size w wr) (fun i _ => xs.length - (intOf i).toNat)
 case atStart => exact ⟨0, by omega, rfl, eqTo_zero _ _, Below.refl _ _⟩
 case round =>
  obtain ⟨k, hk, rfl, hA, hbr⟩ := hrel
  by_cases hlt : k < xs.length
  ·have hlt' : k < ys.length := by have := hl.out; omega
   obtain ⟨a, d, he, hcell⟩ := str_elem (h.out.below hbr) hlt
   cases he
   obtain ⟨a, d, he, hcell'⟩ := str_elem (h'.out.below hbr) hlt'
   cases he
   have r1 := eqB_str xs[k] ys[k]
   have r2 := eqB_str2 xs[k] ys[k]
   cases hq : eqB xs[k] ys[k] with
   | true =>
    have e1 := eqTo_succ hA hlt hlt' (eqB_of hq)
    go_wp2
    go_quiet (fail)
    go_wp2
    go_roundw
    case rel => exact ⟨k + 1, by omega, by go_num, e1, below_dr hbr _⟩
    case measure => simp [intOf]; omega
   | false =>
    have e1 := Hid.mk' (eqB_no (ne_at hlt hlt' (eqB_ne hq)) : eqB xs ys = false)
    go_wp2
    go_quiet (fail)
    go_wp2
    go_ret
    exact ⟨by rw [e1.out]; rfl, below_dr hbr _⟩
  ·obtain rfl : k = xs.length := by omega
   have e1 := Hid.mk' (eqB_yes (eqTo_end hl.out hA))
   go_wp2
   go_ret
   exact ⟨by rw [e1.out]; rfl, hbr⟩
set_option maxRecDepth 100000 in
set_option maxHeartbeats 2000000 in
theorem l4SameRun_calls (x y : Run) (w : World) {vs us : List Value} (h : reps w (x.c) vs) (h' : reps w (y.c) us) :
  Calls Tryz.prog 137 #[.agg vs.toArray, .agg us.toArray] w fun e w' => e = .returned (.bool (eqB x y)) ∧ Below w.heap.size w w' := by
 obtain ⟨v6, rfl, h6⟩ := Run.ropen h
 obtain ⟨u6, rfl, g6⟩ := Run.ropen h'
 obtain ⟨A6, c6, rfl, _, _⟩ := rep_len h6
 replace h6 := Asd.mk h6
 obtain ⟨B6, b6, rfl, _, _⟩ := rep_len g6
 replace g6 := Asd.mk g6
 clear h h'
 have r_Name := eqB_str x.Name y.Name
 have s_Name := eqB_str2 x.Name y.Name
 have r_Over := eqB_bool x.Over y.Over
 have s_Over := eqB_bool2 x.Over y.Over
 have r_Fail := eqB_bool x.Fail y.Fail
 have s_Fail := eqB_bool2 x.Fail y.Fail
 have r_Text := eqB_str x.Text y.Text
 have s_Text := eqB_str2 x.Text y.Text
 have r_At := eqB_int x.At y.At
 have r_Visits := eqB_int x.Visits y.Visits
 have s_At := eqB_int3 x.At y.At
 have s_Visits := eqB_int3 x.Visits y.Visits
 rcases Bool.eq_false_or_eq_true (eqB x.Name y.Name) with q_Name | q_Name
 rotate_left
 ·have e1 := Hid.mk' (eqB_no (fun e => eqB_ne q_Name (congrArg Run.Name e)) : eqB x y = false)
  go_enter Tryz.func137, Tryz.ntmps137
  go_wp2_with (first | (go_at_call 136; refine (l4SameTexts_calls x.Texts y.Texts _ _ _ (h6.out.below (by first | exact ((Below.refl _ _).alloc (Nat.le_refl _) _).alloc (by simp) _ | exact HB.out)) (g6.out.below (by first | exact ((Below.refl _ _).alloc (Nat.le_refl _) _).alloc (by simp) _ | exact HB.out))).mono ?_; rintro e w1 ⟨rfl, hb1⟩; obtain ⟨hcx, hfx⟩ := bcell hb1; have hz1 : w.heap.size + 1 < w1.heap.size := (by have := hb1.size; (try simp at this); omega); have hz0 : w.heap.size < w1.heap.size := (by omega); have HB := Asd.mk (show Below w.heap.size w w1 from by first | exact below_st (((Below.refl _ _).alloc (Nat.le_refl _) _).alloc (by simp) _) hb1 | exact below_st HB.out hb1); clear hb1))
  go_ret
  exact ⟨by rw [e1.out]; rfl, by first | exact ((Below.refl _ _).alloc (Nat.le_refl _) _).alloc (by simp) _ | exact HB.out⟩
 rcases Bool.eq_false_or_eq_true (eqB x.Over y.Over) with q_Over | q_Over
 rotate_left
 ·have e1 := Hid.mk' (eqB_no (fun e => eqB_ne q_Over (congrArg Run.Over e)) : eqB x y = false)
  go_enter Tryz.func137, Tryz.ntmps137
  go_wp2_with (first | (go_at_call 136; refine (l4SameTexts_calls x.Texts y.Texts _ _ _ (h6.out.below (by first | exact ((Below.refl _ _).alloc (Nat.le_refl _) _).alloc (by simp) _ | exact HB.out)) (g6.out.below (by first | exact ((Below.refl _ _).alloc (Nat.le_refl _) _).alloc (by simp) _ | exact HB.out))).mono ?_; rintro e w1 ⟨rfl, hb1⟩; obtain ⟨hcx, hfx⟩ := bcell hb1; have hz1 : w.heap.size + 1 < w1.heap.size := (by have := hb1.size; (try simp at this); omega); have hz0 : w.heap.size < w1.heap.size := (by omega); have HB := Asd.mk (show Below w.heap.size w w1 from by first | exact below_st (((Below.refl _ _).alloc (Nat.le_refl _) _).alloc (by simp) _) hb1 | exact below_st HB.out hb1); clear hb1))
  go_ret
  exact ⟨by rw [e1.out]; rfl, by first | exact ((Below.refl _ _).alloc (Nat.le_refl _) _).alloc (by simp) _ | exact HB.out⟩
 rcases Bool.eq_false_or_eq_true (eqB x.Fail y.Fail) with q_Fail | q_Fail
 rotate_left
 ·have e1 := Hid.mk' (eqB_no (fun e => eqB_ne q_Fail (congrArg Run.Fail e)) : eqB x y = false)
  go_enter Tryz.func137, Tryz.ntmps137
  go_wp2_with (first | (go_at_call 136; refine (l4SameTexts_calls x.Texts y.Texts _ _ _ (h6.out.below (by first | exact ((Below.refl _ _).alloc (Nat.le_refl _) _).alloc (by simp) _ | exact HB.out)) (g6.out.below (by first | exact ((Below.refl _ _).alloc (Nat.le_refl _) _).alloc (by simp) _ | exact HB.out))).mono ?_; rintro e w1 ⟨rfl, hb1⟩; obtain ⟨hcx, hfx⟩ := bcell hb1; have hz1 : w.heap.size + 1 < w1.heap.size := (by have := hb1.size; (try simp at this); omega); have hz0 : w.heap.size < w1.heap.size := (by omega); have HB := Asd.mk (show Below w.heap.size w w1 from by first | exact below_st (((Below.refl _ _).alloc (Nat.le_refl _) _).alloc (by simp) _) hb1 | exact below_st HB.out hb1); clear hb1))
  go_ret
  exact ⟨by rw [e1.out]; rfl, by first | exact ((Below.refl _ _).alloc (Nat.le_refl _) _).alloc (by simp) _ | exact HB.out⟩
 rcases Bool.eq_false_or_eq_true (eqB x.Text y.Text) with q_Text | q_Text
 rotate_left
 ·have e1 := Hid.mk' (eqB_no (fun e => eqB_ne q_Text (congrArg Run.Text e)) : eqB x y = false)
  go_enter Tryz.func137, Tryz.ntmps137
  go_wp2_with (first | (go_at_call 136; refine (l4SameTexts_calls x.Texts y.Texts _ _ _ (h6.out.below (by first | exact ((Below.refl _ _).alloc (Nat.le_refl _) _).alloc (by simp) _ | exact HB.out)) (g6.out.below (by first | exact ((Below.refl _ _).alloc (Nat.le_refl _) _).alloc (by simp) _ | exact HB.out))).mono ?_; rintro e w1 ⟨rfl, hb1⟩; obtain ⟨hcx, hfx⟩ := bcell hb1; have hz1 : w.heap.size + 1 < w1.heap.size := (by have := hb1.size; (try simp at this); omega); have hz0 : w.heap.size < w1.heap.size := (by omega); have HB := Asd.mk (show Below w.heap.size w w1 from by first | exact below_st (((Below.refl _ _).alloc (Nat.le_refl _) _).alloc (by simp) _) hb1 | exact below_st HB.out hb1); clear hb1))
  go_ret
  exact ⟨by rw [e1.out]; rfl, by first | exact ((Below.refl _ _).alloc (Nat.le_refl _) _).alloc (by simp) _ | exact HB.out⟩
 rcases Bool.eq_false_or_eq_true (eqB x.At y.At) with q_At | q_At
 rotate_left
 ·have e1 := Hid.mk' (eqB_no (fun e => eqB_ne q_At (congrArg Run.At e)) : eqB x y = false)
  go_enter Tryz.func137, Tryz.ntmps137
  go_wp2_with (first | (go_at_call 136; refine (l4SameTexts_calls x.Texts y.Texts _ _ _ (h6.out.below (by first | exact ((Below.refl _ _).alloc (Nat.le_refl _) _).alloc (by simp) _ | exact HB.out)) (g6.out.below (by first | exact ((Below.refl _ _).alloc (Nat.le_refl _) _).alloc (by simp) _ | exact HB.out))).mono ?_; rintro e w1 ⟨rfl, hb1⟩; obtain ⟨hcx, hfx⟩ := bcell hb1; have hz1 : w.heap.size + 1 < w1.heap.size := (by have := hb1.size; (try simp at this); omega); have hz0 : w.heap.size < w1.heap.size := (by omega); have HB := Asd.mk (show Below w.heap.size w w1 from by first | exact below_st (((Below.refl _ _).alloc (Nat.le_refl _) _).alloc (by simp) _) hb1 | exact below_st HB.out hb1); clear hb1))
  go_ret
  exact ⟨by rw [e1.out]; rfl, by first | exact ((Below.refl _ _).alloc (Nat.le_refl _) _).alloc (by simp) _ | exact HB.out⟩
 rcases Bool.eq_false_or_eq_true (eqB x.Visits y.Visits) with q_Visits | q_Visits
 rotate_left
 ·have e1 := Hid.mk' (eqB_no (fun e => eqB_ne q_Visits (congrArg Run.Visits e)) : eqB x y = false)
  go_enter Tryz.func137, Tryz.ntmps137
  go_wp2_with (first | (go_at_call 136; refine (l4SameTexts_calls x.Texts y.Texts _ _ _ (h6.out.below (by first | exact ((Below.refl _ _).alloc (Nat.le_refl _) _).alloc (by simp) _ | exact HB.out)) (g6.out.below (by first | exact ((Below.refl _ _).alloc (Nat.le_refl _) _).alloc (by simp) _ | exact HB.out))).mono ?_; rintro e w1 ⟨rfl, hb1⟩; obtain ⟨hcx, hfx⟩ := bcell hb1; have hz1 : w.heap.size + 1 < w1.heap.size := (by have := hb1.size; (try simp at this); omega); have hz0 : w.heap.size < w1.heap.size := (by omega); have HB := Asd.mk (show Below w.heap.size w w1 from by first | exact below_st (((Below.refl _ _).alloc (Nat.le_refl _) _).alloc (by simp) _) hb1 | exact below_st HB.out hb1); clear hb1))
  go_ret
  exact ⟨by rw [e1.out]; rfl, by first | exact ((Below.refl _ _).alloc (Nat.le_refl _) _).alloc (by simp) _ | exact HB.out⟩
 rcases Bool.eq_false_or_eq_true (eqB x.Texts y.Texts) with q_Texts | q_Texts
 rotate_left
 ·have e1 := Hid.mk' (eqB_no (fun e => eqB_ne q_Texts (congrArg Run.Texts e)) : eqB x y = false)
  go_enter Tryz.func137, Tryz.ntmps137
  go_wp2_with (first | (go_at_call 136; refine (l4SameTexts_calls x.Texts y.Texts _ _ _ (h6.out.below (by first | exact ((Below.refl _ _).alloc (Nat.le_refl _) _).alloc (by simp) _ | exact HB.out)) (g6.out.below (by first | exact ((Below.refl _ _).alloc (Nat.le_refl _) _).alloc (by simp) _ | exact HB.out))).mono ?_; rintro e w1 ⟨rfl, hb1⟩; obtain ⟨hcx, hfx⟩ := bcell hb1; have hz1 : w.heap.size + 1 < w1.heap.size := (by have := hb1.size; (try simp at this); omega); have hz0 : w.heap.size < w1.heap.size := (by omega); have HB := Asd.mk (show Below w.heap.size w w1 from by first | exact below_st (((Below.refl _ _).alloc (Nat.le_refl _) _).alloc (by simp) _) hb1 | exact below_st HB.out hb1); clear hb1))
  go_ret
  exact ⟨by rw [e1.out]; rfl, by first | exact ((Below.refl _ _).alloc (Nat.le_refl _) _).alloc (by simp) _ | exact HB.out⟩
 have e1 := Hid.mk' (eqB_yes (show x = y by cases x; cases y; simp only [Run.mk.injEq]; exact ⟨eqB_of q_Name, eqB_of q_Over, eqB_of q_Fail, eqB_of q_Text, eqB_of q_At, eqB_of q_Visits, eqB_of q_Texts⟩) : eqB x y = true)
 go_enter Tryz.func137, Tryz.ntmps137
 go_wp2_with (first | (go_at_call 136; refine (l4SameTexts_calls x.Texts y.Texts _ _ _ (h6.out.below (by first | exact ((Below.refl _ _).alloc (Nat.le_refl _) _).alloc (by simp) _ | exact HB.out)) (g6.out.below (by first | exact ((Below.refl _ _).alloc (Nat.le_refl _) _).alloc (by simp) _ | exact HB.out))).mono ?_; rintro e w1 ⟨rfl, hb1⟩; obtain ⟨hcx, hfx⟩ := bcell hb1; have hz1 : w.heap.size + 1 < w1.heap.size := (by have := hb1.size; (try simp at this); omega); have hz0 : w.heap.size < w1.heap.size := (by omega); have HB := Asd.mk (show Below w.heap.size w w1 from by first | exact below_st (((Below.refl _ _).alloc (Nat.le_refl _) _).alloc (by simp) _) hb1 | exact below_st HB.out hb1); clear hb1))
 go_ret
 exact ⟨by rw [e1.out]; rfl, by first | exact ((Below.refl _ _).alloc (Nat.le_refl _) _).alloc (by simp) _ | exact HB.out⟩
end Go.Proofs.YtkpkfihaihoaeaaGreatDoor.M
end
section
set_option linter.unusedVariables false
set_option linter.unusedSimpArgs false
namespace Go.Proofs.YtkpkfihaihoaeaaGreatDoor.M
open Go.RowKit
theorem l4Do_eq {W : Web} {R : List Run} {r : Run} (h : AscR R) (hr : runOf R r.Name = some r) : sortR (wantsU W (putL R (nextOf W R r).1) (nextOf W R r).2) = doRun W R r := by
 unfold doRun
 refine sort_wantsU (setR_asc h) (putL_asc h _).nodup (fun q => ?_) _
 rw [runOf_putL h, runOf_setR, nextOf_name]
 by_cases e : q = r.Name
 ·rw [if_pos e, if_pos e, e, hr]; rfl
 ·rw [if_neg e, if_neg e]
theorem putL_len (R : List Run) (r : Run) : (putL R r).length ≤ 2 * R.length + 1 := by
 have := putK_len R r R.length
 unfold putL
 split
 ·omega
 ·simp; omega
theorem mem_putL {R : List Run} {r y : Run} (h : AscR R) (hy : y ∈ putL R r) : y = r ∨ y ∈ R := by
 have h1 := runOf_mem (putL_asc h r) hy
 rw [runOf_putL h] at h1
 split at h1
 ·exact .inl (Option.some.inj h1).symm
 ·exact .inr (runOf_some h1).1
theorem RowN.more {N Z : List Nat} {lo : Nat} {w w' : World} {e sz n : Nat} {ts : List T} {v : Value} (h : RowN N lo w e sz n ts v) (hb : Below w.heap.size w w') (hZ : ∀ b ∈ Z, w.heap.size ≤ b) : RowN (Z ++ N) lo w' e sz n ts v := by
 have h' := h.later hb
 obtain ⟨vs, h1, h2⟩ := h
 refine ⟨vs, h1.below hb, ?_⟩
 exact (repsS.ofN h2 hb hZ).sub (fun b hb => by
  rcases List.mem_append.1 hb with hb | hb
  ·exact List.mem_append_right _ (List.mem_append_left _ hb)
  ·rcases List.mem_append.1 hb with hb | hb
   ·exact List.mem_append_left _ hb
   ·exact List.mem_append_right _ (List.mem_append_right _ hb))
theorem next_asks {W : Web} {R : List Run} {r : Run} (hw : checkWeb W = 0) (hR : ∀ r ∈ R, RunOk W r) (hr : RunOk W r) (h : isReady W R r = true) : (nextOf W R r).2.length ≤ 5 := by
 unfold nextOf
 by_cases hv : r.Visits = 20
 ·rw [nextRun_spent hv]; simp
 by_cases ho : onward (actOf W r.Name) r (ansFor W R r)
 ·rw [nextRun_mid hv ho]
  obtain ⟨n, hK⟩ := midK hw hR hr h hv ho
  unfold arrive
  rw [hK.step]
  exact (asks_ok (step_ok (act_ok hw hr.web) (List.getElem_mem hK.lt))).1
 ·unfold onward at ho
  rw [not_or] at ho
  rw [nextRun_over hv ho.1 (by simpa using ho.2)]; simp
set_option maxRecDepth 100000 in
set_option maxHeartbeats 8000000 in
/-- of a run that is ready -/
theorem l4Do_go {t tN tS tC : Nat} (W : Web) (x : State) (q : ByteArray) (r : Run) (w : World) {us vs : List Value} (hW : reps w (W.c tN tS tC) us) (h : reps w (State.c t x) vs) (hw : checkWeb W = 0) (hI : Inv W x.Runs) (hr : runOf x.Runs q = some r) (hrd : isReady W x.Runs r = true) (hro : x.Roots.length ≤ 1000000) :
  Calls Tryz.prog 72 #[.agg us.toArray, .agg vs.toArray, .string q] w (StR ⟨x.Roots, doRun W x.Runs r⟩ w) := by
 have hW0 := hW
 have hS0 := h
 obtain ⟨v0, rfl, h0⟩ := Web.ropen hW
 obtain ⟨A, c, rfl, _, _⟩ := rep_len h0
 obtain ⟨u0, u1, rfl, g0, g1⟩ := State.ropen h
 obtain ⟨D, k, rfl, _, _⟩ := rep_len g0
 obtain ⟨B, d, rfl, _, _⟩ := rep_len g1
 obtain ⟨i, hi, hM, hri⟩ := atR_some hr
 have hRk := hI.ok r (runOf_some hr).1
 have hrn := (runOf_some hr).2
 subst hrn
 have hRl : x.Runs.length ≤ 60 := by have := hI.length hw; have := (checkWeb_ok hw).1; omega
 obtain ⟨a, c', v6, he, k0, k1, k2, k3, k4, k5, k6, hk6, hkr⟩ := Run.elem g1 hi
 cases he
 rw [hri] at k0 k1 k2 k3 k4 k5 hk6 hkr
 obtain ⟨E, e, rfl, _, _⟩ := rep_len hk6
 replace hM := Asd.mk hM
 replace h0 := Asd.mk h0
 replace g0 := Asd.mk g0
 replace g1 := Asd.mk g1
 replace hkr := Asd.mk hkr
 replace hW0 := Asd.mk hW0
 replace hS0 := Asd.mk hS0
 replace hI := Asd.mk hI
 clear hW h hk6 hri
 have hz : (i : Int) < (x.Runs.length : Int) := by omega
 have hz2 : decide ((i : Int) < 0) = false := by simp
 obtain ⟨X, eX⟩ : ∃ X : World, X = ((w.alloc (.cells #[.slice A W.Nodes.length c] 34)).alloc (.cells #[.slice D x.Roots.length k, .slice (some a) x.Runs.length d] 38)).alloc (.cells #[.slice none 0 0, .slice none 0 0] 38) := ⟨_, rfl⟩
 have hbX := Asd.mk (show Below w.heap.size w X from eX ▸ by repeat first|with_reducible (first|exact Below.refl _ _|exact Below.refl _ _|refine below_al ?_ _|refine below_dr ?_ _|refine below_d1 ?_)|(with_reducible refine Below.setCell ?_ ?_ _;rotate_left;next => first|(simp;done)|(simp;omega)|omega))
 have a0 : X.cell? ⟨w.heap.size, 0, none⟩ = some (.slice A W.Nodes.length c) := by rw [eX]; go_simp
 have b0 : X.cell? ⟨w.heap.size + 1, 0, none⟩ = some (.slice D x.Roots.length k) := by rw [eX]; go_simp
 have b1 : X.cell? ⟨w.heap.size + 1, 1, none⟩ = some (.slice (some a) x.Runs.length d) := by rw [eX]; go_simp
 have o0 : X.cell? ⟨w.heap.size + 1 + 1, 0, none⟩ = some (.slice none 0 0) := by rw [eX]; go_simp
 have o1 : X.cell? ⟨w.heap.size + 1 + 1, 1, none⟩ = some (.slice none 0 0) := by rw [eX]; go_simp
 have of0 : X.frozen? ⟨w.heap.size + 1 + 1, 0, none⟩ = false := by rw [eX]; go_simp
 have of1 : X.frozen? ⟨w.heap.size + 1 + 1, 1, none⟩ = false := by rw [eX]; go_simp
 have zX : Asd (X.heap.size = w.heap.size + 1 + 1 + 1) := Asd.mk (by rw [eX]; simp)
 replace k0 := cell_below hbX.out k0
 replace k1 := cell_below hbX.out k1
 replace k2 := cell_below hbX.out k2
 replace k3 := cell_below hbX.out k3
 replace k4 := cell_below hbX.out k4
 replace k5 := cell_below hbX.out k5
 replace k6 := cell_below hbX.out k6
 go_enter Tryz.func72, Tryz.ntmps72
 go_upto_region 1 with (fail)
 rw [← eX]
 clear eX
 go_wp2_with fail
 refine (l4At_calls x r.Name _ (hS0.out.below hbX.out)).mono ?_
 rw [hM.out]
 rintro e' w2 ⟨rfl, hb⟩
 have hb2 := Asd.mk hb
 clear hb
 have hkeep := Asd.mk (show ∀ Y, Below X.heap.size X Y → (Below X.heap.size X Y ∧ Y.cell? ⟨w.heap.size, 0, none⟩ = some (.slice A W.Nodes.length c) ∧ Y.cell? ⟨w.heap.size + 1, 0, none⟩ = some (.slice D x.Roots.length k) ∧ Y.cell? ⟨w.heap.size + 1, 1, none⟩ = some (.slice (some a) x.Runs.length d) ∧ Y.cell? (a.add (i * 7)) = some (.string r.Name) ∧ Y.cell? ⟨(a.add (i * 7)).block, (a.add (i * 7)).off + 1, none⟩ = some (.bool r.Over) ∧ Y.cell? ⟨(a.add (i * 7)).block, (a.add (i * 7)).off + 2, none⟩ = some (.bool r.Fail) ∧ Y.cell? ⟨(a.add (i * 7)).block, (a.add (i * 7)).off + 3, none⟩ = some (.string r.Text) ∧ Y.cell? ⟨(a.add (i * 7)).block, (a.add (i * 7)).off + 4, none⟩ = some (.int .i64 r.At) ∧ Y.cell? ⟨(a.add (i * 7)).block, (a.add (i * 7)).off + 5, none⟩ = some (.int .i64 r.Visits) ∧ Y.cell? ⟨(a.add (i * 7)).block, (a.add (i * 7)).off + 6, none⟩ = some (.slice E r.Texts.length e))
  from fun Y hb => ⟨hb, cell_below hb a0, cell_below hb b0, cell_below hb b1, cell_below hb k0, cell_below hb k1, cell_below hb k2, cell_below hb k3, cell_below hb k4, cell_below hb k5, cell_below hb k6⟩)
 go_upto_region 2 with (fail)
 have s_0 : Below X.heap.size X w2.drew := below_st hb2.out (by repeat first|with_reducible (first|exact Below.refl _ _|exact Below.refl _ _|refine below_al ?_ _|refine below_dr ?_ _|refine below_d1 ?_)|(with_reducible refine Below.setCell ?_ ?_ _;rotate_left;next => first|(simp;done)|(simp;omega)|omega))
 refine wp_region_held_drew (S := fun Y => Below X.heap.size X Y ∧ Y.cell? ⟨w.heap.size, 0, none⟩ = some (.slice A W.Nodes.length c) ∧ Y.cell? ⟨w.heap.size + 1, 0, none⟩ = some (.slice D x.Roots.length k) ∧ Y.cell? ⟨w.heap.size + 1, 1, none⟩ = some (.slice (some a) x.Runs.length d) ∧ Y.cell? (a.add (i * 7)) = some (.string r.Name) ∧ Y.cell? ⟨(a.add (i * 7)).block, (a.add (i * 7)).off + 1, none⟩ = some (.bool r.Over) ∧ Y.cell? ⟨(a.add (i * 7)).block, (a.add (i * 7)).off + 2, none⟩ = some (.bool r.Fail) ∧ Y.cell? ⟨(a.add (i * 7)).block, (a.add (i * 7)).off + 3, none⟩ = some (.string r.Text) ∧ Y.cell? ⟨(a.add (i * 7)).block, (a.add (i * 7)).off + 4, none⟩ = some (.int .i64 r.At) ∧ Y.cell? ⟨(a.add (i * 7)).block, (a.add (i * 7)).off + 5, none⟩ = some (.int .i64 r.Visits) ∧ Y.cell? ⟨(a.add (i * 7)).block, (a.add (i * 7)).off + 6, none⟩ = some (.slice E r.Texts.length e)) (by kernel_rfl) (hkeep.out _ s_0) (fun hHeld => ?_)
 (((refine wH 0 (v:=?_) rfl (by kernel_rfl) (fun _ _ _ h => h) (by rfl) ?_ (by assumption) ?_;rotate_left;next => ((intro X hX;(try dsimp only at hX);go_simp);try with_reducible rfl));try simp only [Act.put,List.getElem_toArray,List.getElem_cons_succ,List.getElem_cons_zero,List.setIfInBounds_toArray,List.set_cons_zero,List.set_cons_succ]); ((refine wH 1 (v:=?_) rfl (by kernel_rfl) (fun _ _ _ h => h) (by rfl) ?_ (by assumption) ?_;rotate_left;next => ((intro X hX;(try dsimp only at hX);go_simp);try with_reducible rfl));try simp only [Act.put,List.getElem_toArray,List.getElem_cons_succ,List.getElem_cons_zero,List.setIfInBounds_toArray,List.set_cons_zero,List.set_cons_succ]); ((refine wH 2 (v:=?_) rfl (by kernel_rfl) (fun _ _ _ h => h) (by rfl) ?_ (by assumption) ?_;rotate_left;next => ((intro X hX;(try dsimp only at hX);go_simp);try with_reducible rfl));try simp only [Act.put,List.getElem_toArray,List.getElem_cons_succ,List.getElem_cons_zero,List.setIfInBounds_toArray,List.set_cons_zero,List.set_cons_succ]); ((refine wH 3 (v:=?_) rfl (by kernel_rfl) (fun _ _ _ h => h) (by rfl) ?_ (by assumption) ?_;rotate_left;next => ((intro X hX;(try dsimp only at hX);go_simp);try with_reducible rfl));try simp only [Act.put,List.getElem_toArray,List.getElem_cons_succ,List.getElem_cons_zero,List.setIfInBounds_toArray,List.set_cons_zero,List.set_cons_succ]); ((refine wH 4 (v:=?_) rfl (by kernel_rfl) (fun _ _ _ h => h) (by rfl) ?_ (by assumption) ?_;rotate_left;next => ((intro X hX;(try dsimp only at hX);go_simp);try with_reducible rfl));try simp only [Act.put,List.getElem_toArray,List.getElem_cons_succ,List.getElem_cons_zero,List.setIfInBounds_toArray,List.set_cons_zero,List.set_cons_succ]); ((refine wH 5 (v:=?_) rfl (by kernel_rfl) (fun _ _ _ h => h) (by rfl) ?_ (by assumption) ?_;rotate_left;next => ((intro X hX;(try dsimp only at hX);go_simp);try with_reducible rfl));try simp only [Act.put,List.getElem_toArray,List.getElem_cons_succ,List.getElem_cons_zero,List.setIfInBounds_toArray,List.set_cons_zero,List.set_cons_succ]); ((refine wH 6 (v:=?_) rfl (by kernel_rfl) (fun _ _ _ h => h) (by rfl) ?_ (by assumption) ?_;rotate_left;next => ((intro X hX;(try dsimp only at hX);go_simp);try with_reducible rfl));try simp only [Act.put,List.getElem_toArray,List.getElem_cons_succ,List.getElem_cons_zero,List.setIfInBounds_toArray,List.set_cons_zero,List.set_cons_succ]); ((refine wH 7 (v:=?_) rfl (by kernel_rfl) (fun _ _ _ h => h) (by rfl) ?_ (by assumption) ?_;rotate_left;next => ((intro X hX;(try dsimp only at hX);go_simp);try with_reducible rfl));try simp only [Act.put,List.getElem_toArray,List.getElem_cons_succ,List.getElem_cons_zero,List.setIfInBounds_toArray,List.set_cons_zero,List.set_cons_succ]); ((refine wH 8 (v:=?_) rfl (by kernel_rfl) (fun _ _ _ h => h) (by rfl) ?_ (by assumption) ?_;rotate_left;next => ((intro X hX;(try dsimp only at hX);go_simp);try with_reducible rfl));try simp only [Act.put,List.getElem_toArray,List.getElem_cons_succ,List.getElem_cons_zero,List.setIfInBounds_toArray,List.set_cons_zero,List.set_cons_succ]); ((refine wH 9 (v:=?_) rfl (by kernel_rfl) (fun _ _ _ h => h) (by rfl) ?_ (by assumption) ?_;rotate_left;next => ((intro X hX;(try dsimp only at hX);go_simp);try with_reducible rfl));try simp only [Act.put,List.getElem_toArray,List.getElem_cons_succ,List.getElem_cons_zero,List.setIfInBounds_toArray,List.set_cons_zero,List.set_cons_succ]))
 (refine wpAnyH_ready (rs := [10]) (by kernel_rfl) (by simp) ?_; refine AllReadyH.cons rfl (fun K hK => ?_) AllReadyH.nil)
 go_simp
 refine (l4CanGo_calls W x r _ (hW0.out.below (below_st hbX.out s_0)) (hS0.out.below (below_st hbX.out s_0)) (hkr.out.below (below_st hbX.out s_0)) hw hRk (by omega)).mono ?_
 rw [hrd]
 rintro e' w3 ⟨rfl, hb⟩
 have hb3 := Asd.mk (below_st s_0 hb)
 clear hb
 refine hK.out _ _ (hkeep.out _ hb3.out) (fun hHeld => ?_)
 clear hK K
 (((refine wH 11 (v:=?_) rfl (by kernel_rfl) (fun _ _ _ h => h) (by rfl) ?_ (by assumption) ?_;rotate_left;next => ((intro X hX;(try dsimp only at hX);go_simp);try with_reducible rfl));try simp only [Act.put,List.getElem_toArray,List.getElem_cons_succ,List.getElem_cons_zero,List.setIfInBounds_toArray,List.set_cons_zero,List.set_cons_succ]); ((refine wH 12 (v:=?_) rfl (by kernel_rfl) (fun _ _ _ h => h) (by rfl) ?_ (by assumption) ?_;rotate_left;next => ((intro X hX;(try dsimp only at hX);go_simp);try with_reducible rfl));try simp only [Act.put,List.getElem_toArray,List.getElem_cons_succ,List.getElem_cons_zero,List.setIfInBounds_toArray,List.set_cons_zero,List.set_cons_succ]))
 refine wpAnyH_done (by kernel_rfl) ?_ _
 clear hHeld s_0
 go_upto_region 4 with (fail)
 obtain ⟨p, hp⟩ : ∃ p, nextOf W x.Runs r = p := ⟨_, rfl⟩
 have hpn := Asd.mk (show p.1.Name = r.Name by rw [← hp]; exact nextOf_name _ _ _)
 have hpok := Asd.mk (show RunOk W p.1 from hp ▸ next_ok hw hI.out.ok hRk hrd)
 have hpa : p.2.length ≤ 5 := by
  have := next_asks hw hI.out.ok hRk hrd
  rw [hp] at this; omega
 go_cut [8, 9] (fun s8 s9 wx => ∃ rb tv v', s8 = .pointer (some ⟨rb, 0, none⟩) ∧ s9 = v' ∧ X.heap.size ≤ rb ∧ wx.heap[rb]? = some (.cells (runCells p.1 tv) 84 (0, 0)) ∧ rep wx (strsT 9 p.1.Texts) tv ∧ rep wx (strsT 9 p.2) v' ∧ Below X.heap.size X wx)
 case first =>
  have s_0 : Below X.heap.size X w3.drew := below_st hb3.out (by repeat first|with_reducible (first|exact Below.refl _ _|exact Below.refl _ _|refine below_al ?_ _|refine below_dr ?_ _|refine below_d1 ?_)|(with_reducible refine Below.setCell ?_ ?_ _;rotate_left;next => first|(simp;done)|(simp;omega)|omega))
  have hxw := hb3.out.size
  have hwx := hbX.out.size
  go_region_held3 (fun Y => Below X.heap.size X Y ∧ Y.cell? ⟨w.heap.size, 0, none⟩ = some (.slice A W.Nodes.length c) ∧ Y.cell? ⟨w.heap.size + 1, 0, none⟩ = some (.slice D x.Roots.length k) ∧ Y.cell? ⟨w.heap.size + 1, 1, none⟩ = some (.slice (some a) x.Runs.length d) ∧ Y.cell? (a.add (i * 7)) = some (.string r.Name) ∧ Y.cell? ⟨(a.add (i * 7)).block, (a.add (i * 7)).off + 1, none⟩ = some (.bool r.Over) ∧ Y.cell? ⟨(a.add (i * 7)).block, (a.add (i * 7)).off + 2, none⟩ = some (.bool r.Fail) ∧ Y.cell? ⟨(a.add (i * 7)).block, (a.add (i * 7)).off + 3, none⟩ = some (.string r.Text) ∧ Y.cell? ⟨(a.add (i * 7)).block, (a.add (i * 7)).off + 4, none⟩ = some (.int .i64 r.At) ∧ Y.cell? ⟨(a.add (i * 7)).block, (a.add (i * 7)).off + 5, none⟩ = some (.int .i64 r.Visits) ∧ Y.cell? ⟨(a.add (i * 7)).block, (a.add (i * 7)).off + 6, none⟩ = some (.slice E r.Texts.length e)) ((refine hkeep.out _ ?_; (repeat first|with_reducible (first|exact Below.refl _ _|exact s_0|exact hb3.out|refine below_al ?_ _|refine below_dr ?_ _|refine below_d1 ?_)|(with_reducible refine Below.setCell ?_ ?_ _;rotate_left;next => first|(simp;done)|(simp;omega)|omega))))
   (first | (go_at_call 134; refine (l4Next_calls [w3.heap.size] W x r _ w hW0.out hkr.out ((show Below w.heap.size w _ from below_st hbX.out (show Below X.heap.size X _ from by (repeat first|with_reducible (first|exact Below.refl _ _|exact s_0|exact hb3.out|refine below_al ?_ _|refine below_dr ?_ _|refine below_d1 ?_)|(with_reducible refine Below.setCell ?_ ?_ _;rotate_left;next => first|(simp;done)|(simp;omega)|omega))))) (fun b hb => by simp at hb; subst hb; simp; omega) (hS0.out.below (below_st hbX.out (show Below X.heap.size X _ from by (repeat first|with_reducible (first|exact Below.refl _ _|exact s_0|exact hb3.out|refine below_al ?_ _|refine below_dr ?_ _|refine below_d1 ?_)|(with_reducible refine Below.setCell ?_ ?_ _;rotate_left;next => first|(simp;done)|(simp;omega)|omega))))) hw hI.out hRk hrd).mono ?_; rw [hp]; rintro e' w4 ⟨tv, v', rfl, hT, hA, hb⟩; obtain ⟨At, ct, rfl, _, _⟩ := rep_len hT.rep; obtain ⟨Aa, ca, rfl, _, _⟩ := rep_len hA.rep; obtain ⟨s_0, s_1, s_2, s_3, s_4, s_5, s_6, s_7, s_8, s_9, s_10⟩ := hkeep.out _ (below_st (show Below X.heap.size X _ from by (repeat first|with_reducible (first|exact Below.refl _ _|exact s_0|exact hb3.out|refine below_al ?_ _|refine below_dr ?_ _|refine below_d1 ?_)|(with_reducible refine Below.setCell ?_ ?_ _;rotate_left;next => first|(simp;done)|(simp;omega)|omega))) hb); obtain ⟨hcx, hfx⟩ := bcell hb; replace hT := Asd.mk hT; replace hA := Asd.mk hA; replace hb := Asd.mk hb; simp only [runCells]) | (go_at_call 134; refine (l4Next_calls [] W x r _ w hW0.out hkr.out ((show Below w.heap.size w _ from below_st hbX.out (show Below X.heap.size X _ from by (repeat first|with_reducible (first|exact Below.refl _ _|exact s_0|exact hb3.out|refine below_al ?_ _|refine below_dr ?_ _|refine below_d1 ?_)|(with_reducible refine Below.setCell ?_ ?_ _;rotate_left;next => first|(simp;done)|(simp;omega)|omega))))) (fun b hb => by cases hb) (hS0.out.below (below_st hbX.out (show Below X.heap.size X _ from by (repeat first|with_reducible (first|exact Below.refl _ _|exact s_0|exact hb3.out|refine below_al ?_ _|refine below_dr ?_ _|refine below_d1 ?_)|(with_reducible refine Below.setCell ?_ ?_ _;rotate_left;next => first|(simp;done)|(simp;omega)|omega))))) hw hI.out hRk hrd).mono ?_; rw [hp]; rintro e' w4 ⟨tv, v', rfl, hT, hA, hb⟩; obtain ⟨At, ct, rfl, _, _⟩ := rep_len hT.rep; obtain ⟨Aa, ca, rfl, _, _⟩ := rep_len hA.rep; obtain ⟨s_0, s_1, s_2, s_3, s_4, s_5, s_6, s_7, s_8, s_9, s_10⟩ := hkeep.out _ (below_st (show Below X.heap.size X _ from by (repeat first|with_reducible (first|exact Below.refl _ _|exact s_0|exact hb3.out|refine below_al ?_ _|refine below_dr ?_ _|refine below_d1 ?_)|(with_reducible refine Below.setCell ?_ ?_ _;rotate_left;next => first|(simp;done)|(simp;omega)|omega))) hb); obtain ⟨hcx, hfx⟩ := bcell hb; replace hT := Asd.mk hT; replace hA := Asd.mk hA; replace hb := Asd.mk hb; simp only [runCells]))
  all_goals (go_wp2_with fail; go_meet)
  ·exact ⟨_, .slice At p.1.Texts.length ct, .slice Aa p.2.length ca, rfl, rfl, s_0.size, heap_alloc_new _ _, hT.out.rep.below (below_al (Below.refl _ _) _), hA.out.rep.below (below_al (Below.refl _ _) _), by repeat first|with_reducible (first|exact Below.refl _ _|exact s_0|refine below_al ?_ _|refine below_dr ?_ _|refine below_d1 ?_)|(with_reducible refine Below.setCell ?_ ?_ _;rotate_left;next => first|(simp;done)|(simp;omega)|omega)⟩
  ·refine ⟨_, .slice At p.1.Texts.length ct, .slice Aa p.2.length ca, rfl, rfl, hxw, ?_, (hT.out.go (by ((with_reducible refine MFr.trans ?_ (MFr.of_set _ ?_)); rotate_left; (next => simp)); ((with_reducible refine MFr.trans ?_ (MFr.of_set _ ?_)); rotate_left; (next => simp)); ((with_reducible refine MFr.trans ?_ (MFr.of_set _ ?_)); rotate_left; (next => simp)); ((with_reducible refine MFr.trans ?_ (MFr.of_set _ ?_)); rotate_left; (next => simp)); ((with_reducible refine MFr.trans ?_ (MFr.of_set _ ?_)); rotate_left; (next => simp)); ((with_reducible refine MFr.trans ?_ (MFr.of_set _ ?_)); rotate_left; (next => simp)); ((with_reducible refine MFr.trans ?_ (MFr.of_set _ ?_)); rotate_left; (next => simp)); with_reducible exact MFr.refl _ _)).rep, (hA.out.go (by ((with_reducible refine MFr.trans ?_ (MFr.of_set _ ?_)); rotate_left; (next => simp)); ((with_reducible refine MFr.trans ?_ (MFr.of_set _ ?_)); rotate_left; (next => simp)); ((with_reducible refine MFr.trans ?_ (MFr.of_set _ ?_)); rotate_left; (next => simp)); ((with_reducible refine MFr.trans ?_ (MFr.of_set _ ?_)); rotate_left; (next => simp)); ((with_reducible refine MFr.trans ?_ (MFr.of_set _ ?_)); rotate_left; (next => simp)); ((with_reducible refine MFr.trans ?_ (MFr.of_set _ ?_)); rotate_left; (next => simp)); ((with_reducible refine MFr.trans ?_ (MFr.of_set _ ?_)); rotate_left; (next => simp)); with_reducible exact MFr.refl _ _)).rep, by repeat first|with_reducible (first|exact Below.refl _ _|exact s_0|refine below_al ?_ _|refine below_dr ?_ _|refine below_d1 ?_)|(with_reducible refine Below.setCell ?_ ?_ _;rotate_left;next => first|(simp;done)|(simp;omega)|omega)⟩
   exact heap_set1 (heap_set1 (heap_set1 (heap_set1 (heap_set1 (heap_set1 (heap_set1 ((hb.out.block _ (by simp)).trans (heap_alloc_new _ _)) 0 _) 1 _) 2 _) 3 _) 4 _) 5 _) 6 _
 case rest =>
  obtain ⟨rb, tv, v', rfl, rfl, zrb, gR, hT, hA, hbc⟩ := hcut
  obtain ⟨At, ct, rfl, _, _⟩ := rep_len hT
  obtain ⟨Aa, ca, rfl, _, _⟩ := rep_len hA
  obtain ⟨X2, eX⟩ : ∃ X2, X2 = wc := ⟨_, rfl⟩
  rw [← eX] at gR hT hA hbc ⊢
  clear eX wc hkeep k0 k1 k2 k3 k4 k5 k6
  have zX := zX.out
  have hz1 := hbc.size
  have hbw := Asd.mk (below_st hbX.out hbc)
  replace a0 := cell_below hbc a0
  replace b0 := cell_below hbc b0
  replace b1 := cell_below hbc b1
  replace o0 := cell_below hbc o0
  replace o1 := cell_below hbc o1
  replace of0 := (hbc.frozen (p := ⟨w.heap.size + 1 + 1, 0, none⟩) (by simp; omega)).trans of0
  replace of1 := (hbc.frozen (p := ⟨w.heap.size + 1 + 1, 1, none⟩) (by simp; omega)).trans of1
  have t0 : X2.cell? ⟨rb, 0, none⟩ = some (.string p.1.Name) := cellOf gR (i := 0) rfl
  have t1 : X2.cell? ⟨rb, 1, none⟩ = some (.bool p.1.Over) := cellOf gR (i := 1) rfl
  have t2 : X2.cell? ⟨rb, 2, none⟩ = some (.bool p.1.Fail) := cellOf gR (i := 2) rfl
  have t3 : X2.cell? ⟨rb, 3, none⟩ = some (.string p.1.Text) := cellOf gR (i := 3) rfl
  have t4 : X2.cell? ⟨rb, 4, none⟩ = some (.int .i64 p.1.At) := cellOf gR (i := 4) rfl
  have t5 : X2.cell? ⟨rb, 5, none⟩ = some (.int .i64 p.1.Visits) := cellOf gR (i := 5) rfl
  have t6 : X2.cell? ⟨rb, 6, none⟩ = some (.slice At p.1.Texts.length ct) := cellOf gR (i := 6) rfl
  have zw2 : w.heap.size + 1 + 1 < X2.heap.size := by omega
  replace hT := Asd.mk hT
  replace hA := Asd.mk hA
  replace zX := Asd.mk zX
  clear gR hbc
  have hkeep := Asd.mk (show ∀ Y, Below X2.heap.size X2 Y → (Below X2.heap.size X2 Y ∧ Y.cell? ⟨w.heap.size, 0, none⟩ = some (.slice A W.Nodes.length c) ∧ Y.cell? ⟨w.heap.size + 1, 1, none⟩ = some (.slice (some a) x.Runs.length d) ∧ Y.cell? ⟨rb, 0, none⟩ = some (.string p.1.Name) ∧ Y.cell? ⟨rb, 1, none⟩ = some (.bool p.1.Over) ∧ Y.cell? ⟨rb, 2, none⟩ = some (.bool p.1.Fail) ∧ Y.cell? ⟨rb, 3, none⟩ = some (.string p.1.Text) ∧ Y.cell? ⟨rb, 4, none⟩ = some (.int .i64 p.1.At) ∧ Y.cell? ⟨rb, 5, none⟩ = some (.int .i64 p.1.Visits) ∧ Y.cell? ⟨rb, 6, none⟩ = some (.slice At p.1.Texts.length ct))
   from fun Y hb => ⟨hb, cell_below hb a0, cell_below hb b1, cell_below hb t0, cell_below hb t1, cell_below hb t2, cell_below hb t3, cell_below hb t4, cell_below hb t5, cell_below hb t6⟩)
  have s_0 : Below X2.heap.size X2 X2.drew := (Below.refl _ _).drew
  go_upto_region 5 with (fail)
  refine wp_region_held_drew (S := fun Y => Below X2.heap.size X2 Y ∧ Y.cell? ⟨w.heap.size, 0, none⟩ = some (.slice A W.Nodes.length c) ∧ Y.cell? ⟨w.heap.size + 1, 1, none⟩ = some (.slice (some a) x.Runs.length d) ∧ Y.cell? ⟨rb, 0, none⟩ = some (.string p.1.Name) ∧ Y.cell? ⟨rb, 1, none⟩ = some (.bool p.1.Over) ∧ Y.cell? ⟨rb, 2, none⟩ = some (.bool p.1.Fail) ∧ Y.cell? ⟨rb, 3, none⟩ = some (.string p.1.Text) ∧ Y.cell? ⟨rb, 4, none⟩ = some (.int .i64 p.1.At) ∧ Y.cell? ⟨rb, 5, none⟩ = some (.int .i64 p.1.Visits) ∧ Y.cell? ⟨rb, 6, none⟩ = some (.slice At p.1.Texts.length ct)) (by kernel_rfl) (hkeep.out _ s_0) (fun hHeld => ?_)
  (((refine wH 0 (v:=?_) rfl (by kernel_rfl) (fun _ _ _ h => h) (by rfl) ?_ (by assumption) ?_;rotate_left;next => ((intro X hX;(try dsimp only at hX);go_simp);try with_reducible rfl));try simp only [Act.put,List.getElem_toArray,List.getElem_cons_succ,List.getElem_cons_zero,List.setIfInBounds_toArray,List.set_cons_zero,List.set_cons_succ]); ((refine wH 1 (v:=?_) rfl (by kernel_rfl) (fun _ _ _ h => h) (by rfl) ?_ (by assumption) ?_;rotate_left;next => ((intro X hX;(try dsimp only at hX);go_simp);try with_reducible rfl));try simp only [Act.put,List.getElem_toArray,List.getElem_cons_succ,List.getElem_cons_zero,List.setIfInBounds_toArray,List.set_cons_zero,List.set_cons_succ]); ((refine wH 2 (v:=?_) rfl (by kernel_rfl) (fun _ _ _ h => h) (by rfl) ?_ (by assumption) ?_;rotate_left;next => ((intro X hX;(try dsimp only at hX);go_simp);try with_reducible rfl));try simp only [Act.put,List.getElem_toArray,List.getElem_cons_succ,List.getElem_cons_zero,List.setIfInBounds_toArray,List.set_cons_zero,List.set_cons_succ]); ((refine wH 3 (v:=?_) rfl (by kernel_rfl) (fun _ _ _ h => h) (by rfl) ?_ (by assumption) ?_;rotate_left;next => ((intro X hX;(try dsimp only at hX);go_simp);try with_reducible rfl));try simp only [Act.put,List.getElem_toArray,List.getElem_cons_succ,List.getElem_cons_zero,List.setIfInBounds_toArray,List.set_cons_zero,List.set_cons_succ]))
  (refine wpAnyH_ready (rs := [4]) (by kernel_rfl) (by simp) ?_; refine AllReadyH.cons rfl (fun K hK => ?_) AllReadyH.nil)
  go_simp
  have hTl : p.1.Texts.length ≤ 1000000 := by have h1 := hpok.out.many; have h2 := hpok.out.vis1; omega
  refine (l4Put_calls (N := []) x.Runs p.1 _ _ (repS.nil (g1.out.below (below_st hbw.out (show Below X2.heap.size X2 _ from by repeat first|with_reducible (first|exact Below.refl _ _|exact s_0|refine below_al ?_ _|refine below_dr ?_ _|refine below_d1 ?_)|(with_reducible refine Below.setCell ?_ ?_ _;rotate_left;next => first|(simp;done)|(simp;omega)|omega))))) (fun _ _ h => by cases h) (Run.rmk p.1 (hT.out.below (by repeat first|with_reducible (first|exact Below.refl _ _|exact s_0|refine below_al ?_ _|refine below_dr ?_ _|refine below_d1 ?_)|(with_reducible refine Below.setCell ?_ ?_ _;rotate_left;next => first|(simp;done)|(simp;omega)|omega)))) (fun b hb => by cases hb) (by omega) hTl).mono ?_
  rintro e' w5 ⟨vl, rfl, hRow, hb⟩
  obtain ⟨Al, cl, rfl, _⟩ := hRow.slice
  have hb5 := Asd.mk (below_st (show Below X2.heap.size X2 _ from by repeat first|with_reducible (first|exact Below.refl _ _|exact s_0|refine below_al ?_ _|refine below_dr ?_ _|refine below_d1 ?_)|(with_reducible refine Below.setCell ?_ ?_ _;rotate_left;next => first|(simp;done)|(simp;omega)|omega)) hb)
  have hz5 := hb5.out.size
  replace hRow := Asd.mk hRow
  clear hb
  refine hK.out _ _ (hkeep.out _ hb5.out) (fun hHeld => ?_)
  clear hK K
  (((refine wH 5 (v:=?_) rfl (by kernel_rfl) (fun _ _ _ h => h) (by rfl) ?_ (by assumption) ?_;rotate_left;next => ((intro X hX;(try dsimp only at hX);go_simp);try with_reducible rfl));try simp only [Act.put,List.getElem_toArray,List.getElem_cons_succ,List.getElem_cons_zero,List.setIfInBounds_toArray,List.set_cons_zero,List.set_cons_succ]))
  (refine wpAnyH_ready (rs := [6]) (by kernel_rfl) (by simp) ?_; refine AllReadyH.cons rfl (fun K hK => ?_) AllReadyH.nil)
  go_simp
  refine hK.out _ _ (hkeep.out _ (by repeat first|with_reducible (first|exact Below.refl _ _|exact hb5.out|refine below_al ?_ _|refine below_dr ?_ _|refine below_d1 ?_)|(with_reducible refine Below.setCell ?_ ?_ _;rotate_left;next => first|(simp;done)|(simp;omega)|omega))) (fun hHeld => ?_)
  clear hK K
  (((refine wH 7 (v:=?_) rfl (by kernel_rfl) (fun _ _ _ h => h) (by rfl) ?_ (by assumption) ?_;rotate_left;next => ((intro X hX;(try dsimp only at hX);go_simp);try with_reducible rfl));try simp only [Act.put,List.getElem_toArray,List.getElem_cons_succ,List.getElem_cons_zero,List.setIfInBounds_toArray,List.set_cons_zero,List.set_cons_succ]))
  refine wpAnyH_done (by kernel_rfl) ?_ _
  clear hHeld hkeep t0 t1 t2 t3 t4 t5 t6 s_0
  go_upto_region 6 with (fail)
  obtain ⟨kb, hkb⟩ : ∃ kb, kb = w5.heap.size := ⟨_, rfl⟩
  obtain ⟨X3, eX⟩ : ∃ X3 : World, X3 = w5.alloc (.cells #[.slice A W.Nodes.length c, .slice Al (putL x.Runs p.1).length cl] 108) := ⟨_, rfl⟩
  rw [← eX, ← hkb]
  have hb3' : Below w5.heap.size w5 X3 := eX ▸ by repeat first|with_reducible (first|exact Below.refl _ _|exact Below.refl _ _|refine below_al ?_ _|refine below_dr ?_ _|refine below_d1 ?_)|(with_reducible refine Below.setCell ?_ ?_ _;rotate_left;next => first|(simp;done)|(simp;omega)|omega)
  have gK := Asd.mk (show X3.heap[kb]? = _ from hkb ▸ eX ▸ heap_alloc_new _ _)
  have hRow3 := Asd.mk (show RowN [kb] X2.heap.size X3 84 7 (putL x.Runs p.1).length ((putL x.Runs p.1).flatMap Run.c) (.slice Al (putL x.Runs p.1).length cl) from by
   have := hRow.out.more (Z := [kb]) hb3' (fun b hb => by simp at hb; omega)
   exact (by simpa using this.mono (l := X2.heap.size) (by simp)))
  have hap := Asd.mk (show ∀ j, (Value.slice Al (putL x.Runs p.1).length cl).ownBlock = some j → j ≠ kb from fun j hj => by have := hRow.out.lt j hj; omega)
  have hb23 := Asd.mk (below_st hb5.out hb3')
  have hlo2 := Asd.mk hRow.out.lo
  have zkb : X2.heap.size ≤ kb := by omega
  have zkb3 : kb < X3.heap.size := lt_of_heap gK.out
  have hz23 := hb23.out.size
  have hown : ∀ b ∈ kb :: (Value.slice Al (putL x.Runs p.1).length cl).ownBlock.toList, X2.heap.size ≤ b := fun b hb => by
   rcases List.mem_cons.1 hb with rfl | hb
   ·exact zkb
   ·have := hlo2.out b (by simpa using hb); simp at this; omega
  have hput := putL_len x.Runs p.1
  replace hown := Asd.mk hown
  clear eX hkb hb3' hRow hb5 hz5 hlo2
  go_wp2_with fail
  refine (want3_calls (lo := X2.heap.size) W (putL x.Runs p.1) p.2 kb A Aa c ca (.slice Al (putL x.Runs p.1).length cl) _ ⟨gK.out, hRow3.out, hap.out⟩ (repS.of (h0.out.below hbw.out) hb23.out (fun b hb => hown.out b hb)) (repS.of hA.out hb23.out (fun b hb => hown.out b hb)) (by omega) (by omega) hz23).mono ?_
  rintro e' w7 ⟨rfl, rv, hK7, hm7, _⟩
  have hb7 := Asd.mk (MFr.upon hm7 hb23.out (Nat.le_refl _) hown.out)
  obtain ⟨Ar, dr, rfl, _⟩ := hK7.row.slice
  have c1 := cellOf hK7.cells (i := 1) rfl
  have hz7 := hb7.out.size
  have b0' := cell_below hb7.out b0
  have o0' := cell_below hb7.out o0
  have o1' := cell_below hb7.out o1
  have of0' := (hb7.out.frozen (p := ⟨w.heap.size + 1 + 1, 0, none⟩) (by simp; omega)).trans of0
  have of1' := (hb7.out.frozen (p := ⟨w.heap.size + 1 + 1, 1, none⟩) (by simp; omega)).trans of1
  have hruns := Asd.mk (show rep w7 (RunsT 84 (wantsU W (putL x.Runs p.1) p.2)) (.slice Ar (wantsU W (putL x.Runs p.1) p.2).length dr) from hK7.row.row.rep)
  have hlen := wuTo_len W (putL x.Runs p.1) p.2 p.2.length
  rw [wuTo_end] at hlen
  have hbw7 := Asd.mk (below_st hbw.out hb7.out)
  have zkw : w.heap.size + 1 + 1 < kb := by omega
  have zw7 : w.heap.size + 1 + 1 < w7.heap.size := by omega
  clear hK7 hm7 b0 b1 a0 o0 o1 of0 of1 gK hRow3 hap hown
  have hTx : ∀ y ∈ wantsU W (putL x.Runs p.1) p.2, y.Texts.length ≤ 1000000 := by
   intro y hy
   rcases mem_wantsU _ _ hy with hy | ⟨q, rfl⟩
   ·rcases mem_putL hI.out.asc hy with rfl | hy
    ·exact hTl
    ·have h1 := (hI.out.ok y hy).many; have h2 := (hI.out.ok y hy).vis1; omega
   ·simp [newRun]
  replace hTx := Asd.mk hTx
  go_upto_region 7 with (fail)
  refine wp_region_held_drew (S := fun Y => Y.cell? ⟨w.heap.size + 1, 0, none⟩ = some (.slice D x.Roots.length k) ∧ Y.cell? ⟨kb, 1, none⟩ = some (.slice Ar (wantsU W (putL x.Runs p.1) p.2).length dr)) (by kernel_rfl) ⟨b0', c1⟩ (fun hHeld => ?_)
  (((refine wH 0 (v:=?_) rfl (by kernel_rfl) (fun _ _ _ h => h) (by rfl) ?_ (by assumption) ?_;rotate_left;next => ((intro X hX;(try dsimp only at hX);go_simp);try with_reducible rfl));try simp only [Act.put,List.getElem_toArray,List.getElem_cons_succ,List.getElem_cons_zero,List.setIfInBounds_toArray,List.set_cons_zero,List.set_cons_succ]); ((refine wH 1 (v:=?_) rfl (by kernel_rfl) (fun _ _ _ h => h) (by rfl) ?_ (by assumption) ?_;rotate_left;next => ((intro X hX;(try dsimp only at hX);go_simp);try with_reducible rfl));try simp only [Act.put,List.getElem_toArray,List.getElem_cons_succ,List.getElem_cons_zero,List.setIfInBounds_toArray,List.set_cons_zero,List.set_cons_succ]); ((refine wH 2 (v:=?_) rfl (by kernel_rfl) (fun _ _ _ h => h) (by rfl) ?_ (by assumption) ?_;rotate_left;next => ((intro X hX;(try dsimp only at hX);go_simp);try with_reducible rfl));try simp only [Act.put,List.getElem_toArray,List.getElem_cons_succ,List.getElem_cons_zero,List.setIfInBounds_toArray,List.set_cons_zero,List.set_cons_succ]); ((refine wH 3 (v:=?_) rfl (by kernel_rfl) (fun _ _ _ h => h) (by rfl) ?_ (by assumption) ?_;rotate_left;next => ((intro X hX;(try dsimp only at hX);go_simp);try with_reducible rfl));try simp only [Act.put,List.getElem_toArray,List.getElem_cons_succ,List.getElem_cons_zero,List.setIfInBounds_toArray,List.set_cons_zero,List.set_cons_succ]); ((refine wH 4 (v:=?_) rfl (by kernel_rfl) (fun _ _ _ h => h) (by rfl) ?_ (by assumption) ?_;rotate_left;next => ((intro X hX;(try dsimp only at hX);go_simp);try with_reducible rfl));try simp only [Act.put,List.getElem_toArray,List.getElem_cons_succ,List.getElem_cons_zero,List.setIfInBounds_toArray,List.set_cons_zero,List.set_cons_succ]); ((refine wH 5 (v:=?_) rfl (by kernel_rfl) (fun _ _ _ h => h) (by rfl) ?_ (by assumption) ?_;rotate_left;next => ((intro X hX;(try dsimp only at hX);go_simp);try with_reducible rfl));try simp only [Act.put,List.getElem_toArray,List.getElem_cons_succ,List.getElem_cons_zero,List.setIfInBounds_toArray,List.set_cons_zero,List.set_cons_succ]))
  (refine wpAnyH_ready (rs := [6]) (by kernel_rfl) (by simp) ?_; refine AllReadyH.cons rfl (fun K hK => ?_) AllReadyH.nil)
  go_simp
  refine (l3State_calls x.Roots (wantsU W (putL x.Runs p.1) p.2) _ _ w7.drew (g0.out.below (by repeat first|with_reducible (first|exact Below.refl _ _|exact hbw7.out|refine below_al ?_ _|refine below_dr ?_ _|refine below_d1 ?_)|(with_reducible refine Below.setCell ?_ ?_ _;rotate_left;next => first|(simp;done)|(simp;omega)|omega))) (hruns.out.below (by repeat first|with_reducible (first|exact Below.refl _ _|exact Below.refl _ _|refine below_al ?_ _|refine below_dr ?_ _|refine below_d1 ?_)|(with_reducible refine Below.setCell ?_ ?_ _;rotate_left;next => first|(simp;done)|(simp;omega)|omega))) (by omega) hro hTx.out).mono ?_
  rintro e' w8 ⟨y0, y1, rfl, hs, hb8⟩
  obtain ⟨_, _, he, p0, p1⟩ := State.ropen hs.reps
  obtain ⟨A8, d8, rfl, _, _⟩ := rep_len p0
  obtain ⟨B8, e8, rfl, _, _⟩ := rep_len p1
  cases he
  have hb78 := Asd.mk (below_st (show Below w7.heap.size w7 w7.drew from by repeat first|with_reducible (first|exact Below.refl _ _|exact Below.refl _ _|refine below_al ?_ _|refine below_dr ?_ _|refine below_d1 ?_)|(with_reducible refine Below.setCell ?_ ?_ _;rotate_left;next => first|(simp;done)|(simp;omega)|omega)) hb8)
  replace o0' := cell_below hb78.out o0'
  replace o1' := cell_below hb78.out o1'
  replace of0' := (hb78.out.frozen (p := ⟨w.heap.size + 1 + 1, 0, none⟩) zw7).trans of0'
  replace of1' := (hb78.out.frozen (p := ⟨w.heap.size + 1 + 1, 1, none⟩) zw7).trans of1'
  have c1' := cell_below hb78.out c1
  have b0'' := cell_below hb78.out b0'
  have hz78 := hb78.out.size
  replace hs := Asd.mk hs
  clear hb8 p0 p1 c1 b0'
  refine hK.out _ _ ⟨b0'', c1'⟩ (fun hHeld => ?_)
  clear hK K
  (refine wpAnyH_ready (rs := [7]) (by kernel_rfl) (by simp) ?_; refine AllReadyH.cons rfl (fun K hK => ?_) AllReadyH.nil)
  go_simp
  refine hK.out _ _ ⟨by go_simp, by go_simp⟩ (fun hHeld => ?_)
  clear hK K
  refine wpAnyH_done (by kernel_rfl) ?_ _
  clear hHeld
  go_wp2
  refine bodyPost_ret (v := .agg #[.slice A8 x.Roots.length d8, .slice B8 (sortR (wantsU W (putL x.Runs p.1) p.2)).length e8]) (by simp [results, Tryz.results72, go_sem, *]) rfl ?_
  have hfin : sortR (wantsU W (putL x.Runs p.1) p.2) = doRun W x.Runs r := by rw [← hp]; exact l4Do_eq hI.out.asc hr
  rw [← hfin]
  refine ⟨_, _, rfl, fun w9 h9 => hs.out w9 ?_, by repeat first|with_reducible (first|exact Below.refl _ _|exact below_st hbw7.out hb78.out|refine below_al ?_ _|refine below_dr ?_ _|refine below_d1 ?_)|(with_reducible refine Below.setCell ?_ ?_ _;rotate_left;next => first|(simp;done)|(simp;omega)|omega)⟩
  exact (MFr.trans (MFr.of_set _ (by simp; omega)) (MFr.of_set _ (by simp; omega))).trans (h9.mono (fun b hb => by simp at hb ⊢; omega))
end Go.Proofs.YtkpkfihaihoaeaaGreatDoor.M
end
section
set_option linter.unusedVariables false
set_option linter.unusedSimpArgs false
namespace Go.Proofs.YtkpkfihaihoaeaaGreatDoor.M
open Go.RowKit
set_option maxRecDepth 100000 in
set_option maxHeartbeats 2000000 in
theorem l4Same_calls {t t' : Nat} (x y : State) (w : World) {vs us : List Value} (h : reps w (State.c t x) vs) (h' : reps w (State.c t' y) us) :
  Calls Tryz.prog 73 #[.agg vs.toArray, .agg us.toArray] w fun e w' => e = .returned (.bool (eqB x y)) ∧ Below w.heap.size w w' := by
 obtain ⟨v0, v1, rfl, h0, h1⟩ := State.ropen h
 obtain ⟨u0, u1, rfl, g0, g1⟩ := State.ropen h'
 obtain ⟨A0, c0, rfl, _, _⟩ := rep_len h0
 obtain ⟨B0, b0, rfl, _, _⟩ := rep_len g0
 obtain ⟨A1, c1, rfl, _, _⟩ := rep_len h1
 obtain ⟨B1, b1, rfl, _, _⟩ := rep_len g1
 replace h0 := Asd.mk h0
 replace g0 := Asd.mk g0
 replace h1 := Asd.mk h1
 replace g1 := Asd.mk g1
 clear h h'
 have HB := Asd.mk (below_al (below_al (Below.refl w.heap.size w) (.cells #[.slice A0 x.Roots.length c0, .slice A1 x.Runs.length c1] 38)) (.cells #[.slice B0 y.Roots.length b0, .slice B1 y.Runs.length b1] 38))
 cases qr : eqB x.Roots y.Roots with
 | false =>
  have e1 := Asd.mk (eqB_no (fun e => eqB_ne qr (congrArg State.Roots e)) : eqB x y = false)
  go_enter Tryz.func73, Tryz.ntmps73
  go_wp2_with fail
  refine (l4SameTexts_calls x.Roots y.Roots _ _ _ (h0.out.below HB.out) (g0.out.below HB.out)).mono ?_
  rw [qr]
  rintro e w1 ⟨rfl, hb⟩
  have hb1 := Asd.mk (below_st HB.out hb)
  clear hb
  go_wp2
  go_ret
  exact ⟨by rw [e1.out]; rfl, hb1.out⟩
 | true =>
 by_cases hl : x.Runs.length = y.Runs.length
 rotate_left
 ·have e1 := Asd.mk (eqB_no (fun e => hl (congrArg (fun s => s.Runs.length) e)) : eqB x y = false)
  have hb : ((x.Runs.length : Int) != (y.Runs.length : Int)) = true := by simp; omega
  replace hl := Asd.mk hl
  go_enter Tryz.func73, Tryz.ntmps73
  go_wp2_with fail
  refine (l4SameTexts_calls x.Roots y.Roots _ _ _ (h0.out.below HB.out) (g0.out.below HB.out)).mono ?_
  rw [qr]
  rintro e w1 ⟨rfl, hb⟩
  obtain ⟨hcx, hfx⟩ := bcell hb
  have hb1 := Asd.mk (below_st HB.out hb)
  clear hb
  go_wp2
  go_ret
  exact ⟨by rw [e1.out]; rfl, hb1.out⟩
 have hb0 : ((x.Runs.length : Int) != (y.Runs.length : Int)) = false := by simp; omega
 replace hl := Asd.mk hl
 go_enter Tryz.func73, Tryz.ntmps73
 go_wp2_with fail
 refine (l4SameTexts_calls x.Roots y.Roots _ _ _ (h0.out.below HB.out) (g0.out.below HB.out)).mono ?_
 rw [qr]
 rintro e w1 ⟨rfl, hb⟩
 have x1 : w1.cell? ⟨w.heap.size, 1, none⟩ = some (.slice A1 x.Runs.length c1) := by rw [(bcell hb).1 _ _ (by simp; omega)]; go_simp
 have y1 : w1.cell? ⟨w.heap.size + 1, 1, none⟩ = some (.slice B1 y.Runs.length b1) := by rw [(bcell hb).1 _ _ (by simp)]; go_simp
 have hb1 := Asd.mk (below_st HB.out hb)
 clear hb
 go_wp2
 go_loopw [5] (fun i wr => ∃ k : Nat, k ≤ x.Runs.length ∧ i = .int .i64 k ∧ eqTo x.Runs y.Runs k ∧ Below w1.heap.size w1 wr) (fun i _ => x.Runs.length - (intOf i).toNat)
 case atStart => exact ⟨0, by omega, rfl, eqTo_zero _ _, Below.refl _ _⟩
 case round =>
  obtain ⟨k, hk, rfl, hA, hbr⟩ := hrel
  have hbw := below_st hb1.out hbr
  have x1r := cell_below hbr x1
  have y1r := cell_below hbr y1
  by_cases hlt : k < x.Runs.length
  ·have hlt' : k < y.Runs.length := by have := hl.out; omega
   have hz1 : (k : Int) < (x.Runs.length : Int) := by omega
   have hz2 : (k : Int) < (y.Runs.length : Int) := by omega
   obtain ⟨a, c', v6, he, k0, k1, k2, k3, k4, k5, k6, h6, hr⟩ := Run.elem (h1.out.below hbw) hlt
   cases he
   obtain ⟨B6, b6, rfl, _, _⟩ := rep_len h6
   clear h6
   obtain ⟨a', d', u6, he, m0, m1, m2, m3, m4, m5, m6, g6, gr⟩ := Run.elem (g1.out.below hbw) hlt'
   cases he
   obtain ⟨C6, d6, rfl, _, _⟩ := rep_len g6
   clear g6
   replace hr := Asd.mk hr
   replace gr := Asd.mk gr
   replace hbr := Asd.mk hbr
   replace hbw := Asd.mk hbw
   cases hq : eqB x.Runs[k] y.Runs[k] with
   | true =>
    have e1 := eqTo_succ hA hlt hlt' (eqB_of hq)
    go_wp2_with fail
    go_still_tail 10, (by kernel_rfl)
    change wpList _ _ _ _ _ wr.drew
    go_wp2_with fail
    refine (l4SameRun_calls x.Runs[k] y.Runs[k] _ (hr.out.below (by repeat first|with_reducible (first|exact Below.refl _ _|exact Below.refl _ _|refine below_al ?_ _|refine below_dr ?_ _|refine below_d1 ?_)|(with_reducible refine Below.setCell ?_ ?_ _;rotate_left;next => first|(simp;done)|(simp;omega)|omega))) (gr.out.below (by repeat first|with_reducible (first|exact Below.refl _ _|exact Below.refl _ _|refine below_al ?_ _|refine below_dr ?_ _|refine below_d1 ?_)|(with_reducible refine Below.setCell ?_ ?_ _;rotate_left;next => first|(simp;done)|(simp;omega)|omega)))).mono ?_
    rw [hq]
    rintro e w2 ⟨rfl, hb2⟩
    have hb3 := Asd.mk (below_st hbr.out (below_st (show Below wr.heap.size wr _ from by repeat first|with_reducible (first|exact Below.refl _ _|exact Below.refl _ _|refine below_al ?_ _|refine below_dr ?_ _|refine below_d1 ?_)|(with_reducible refine Below.setCell ?_ ?_ _;rotate_left;next => first|(simp;done)|(simp;omega)|omega)) hb2))
    clear hb2
    go_wp2
    go_roundw
    case rel => exact ⟨k + 1, by omega, by go_num, e1, hb3.out⟩
    case measure => simp [intOf]; omega
   | false =>
    have e1 := Asd.mk (eqB_no (fun e => (ne_at hlt hlt' (eqB_ne hq)) (congrArg State.Runs e)) : eqB x y = false)
    go_wp2_with fail
    go_still_tail 10, (by kernel_rfl)
    change wpList _ _ _ _ _ wr.drew
    go_wp2_with fail
    refine (l4SameRun_calls x.Runs[k] y.Runs[k] _ (hr.out.below (by repeat first|with_reducible (first|exact Below.refl _ _|exact Below.refl _ _|refine below_al ?_ _|refine below_dr ?_ _|refine below_d1 ?_)|(with_reducible refine Below.setCell ?_ ?_ _;rotate_left;next => first|(simp;done)|(simp;omega)|omega))) (gr.out.below (by repeat first|with_reducible (first|exact Below.refl _ _|exact Below.refl _ _|refine below_al ?_ _|refine below_dr ?_ _|refine below_d1 ?_)|(with_reducible refine Below.setCell ?_ ?_ _;rotate_left;next => first|(simp;done)|(simp;omega)|omega)))).mono ?_
    rw [hq]
    rintro e w2 ⟨rfl, hb2⟩
    have hb3 := Asd.mk (below_st hbw.out (below_st (show Below wr.heap.size wr _ from by repeat first|with_reducible (first|exact Below.refl _ _|exact Below.refl _ _|refine below_al ?_ _|refine below_dr ?_ _|refine below_d1 ?_)|(with_reducible refine Below.setCell ?_ ?_ _;rotate_left;next => first|(simp;done)|(simp;omega)|omega)) hb2))
    clear hb2
    go_wp2
    go_ret
    exact ⟨by rw [e1.out]; rfl, hb3.out⟩
  ·obtain rfl : k = x.Runs.length := by omega
   have e1 := Asd.mk (show eqB x y = true from eqB_yes (by
    have h1 := eqB_of qr
    have h2 := eqTo_end hl.out hA
    cases x; cases y; simp only at h1 h2; rw [h1, h2]))
   replace hbw := Asd.mk hbw
   go_wp2
   go_ret
   exact ⟨by rw [e1.out]; rfl, hbw.out⟩
end Go.Proofs.YtkpkfihaihoaeaaGreatDoor.M
end
section
set_option linter.unusedVariables false
set_option linter.unusedSimpArgs false
namespace Go.Proofs.YtkpkfihaihoaeaaGreatDoor.M
open Go.RowKit
/-- the run x, come to y since w -/
structure Md (w : World) (x : Ent) (wk : World) (y : Ent) : Prop where
 run : RunAt wk y
 b : y.b = x.b
 name : y.r.Name = x.r.Name
 nod : y.G.Nodup
 own : ∀ k ∈ y.G, k ∈ x.G ∨ w.heap.size ≤ k
 fr : MFr (entF x) w wk
 self : x.b ∉ x.G
 lt : x.b < w.heap.size
section
variable {w wk w' : World} {x y : Ent}
theorem Md.away (h : Md w x wk y) : x.b ∉ y.G := fun hk => (h.own x.b hk).elim h.self (fun h2 => by have := h.lt; omega)
theorem Md.size (h : Md w x wk y) : w.heap.size ≤ wk.heap.size := h.fr.size
theorem Md.cells (h : Md w x wk y) : wk.heap[x.b]? = some (.cells (runCells y.r y.v) 84 (0, 0)) := h.b ▸ h.run.1
theorem Md.later (h : Md w x wk y) (hb : Below wk.heap.size wk w') : Md w x w' y :=
 ⟨h.run.move (fun b hb' => hb.block b (by
  rcases List.mem_cons.1 hb' with rfl | hb'
  ·exact lt_of_heap h.run.1
  ·exact h.run.2.lt b hb')), h.b, h.name, h.nod, h.own, h.fr.trans (MFr.of_below hb), h.self, h.lt⟩
theorem Md.set (h : Md w x wk y) {i : Nat} {u : Value} {r' : Run} (hc : (runCells y.r y.v).setIfInBounds i u = runCells r' y.v) (hn : r'.Name = y.r.Name) (ht : r'.Texts = y.r.Texts) : Md w x (wk.setCell ⟨x.b, i, none⟩ u) ⟨r', y.b, y.v, y.G⟩ := by
 refine ⟨⟨?_, ?_⟩, h.b, hn.trans h.name, h.nod, h.own, h.fr.trans (MFr.of_set _ (by simp [entF])), h.self, h.lt⟩
 ·simp only [h.b]; rw [← hc]; exact heap_set1 h.cells i u
 ·simp only [ht]; exact h.run.2.set h.away u
/-- its texts anew -/
theorem Md.txt (h : Md w x wk y) {ts : List ByteArray} {v' : Value} {G' : List Nat} (ho : M.own w' (strsT 9 ts) v' G') (hn : G'.Nodup) (hG : ∀ k ∈ G', k ∈ y.G ∨ wk.heap.size ≤ k) (hm : MFr y.G wk w') :
  Md w x (w'.setCell ⟨x.b, 6, none⟩ v') ⟨{ y.r with Texts := ts }, y.b, v', G'⟩ := by
 have hs := h.size
 have ha : x.b ∉ G' := fun hk => (hG x.b hk).elim h.away (fun h2 => by have := h.lt; omega)
 have hc : w'.heap[x.b]? = _ := (hm.block x.b (by have := h.lt; omega) h.away).trans h.cells
 refine ⟨⟨?_, ho.set ha v'⟩, h.b, h.name, hn, fun k hk => ?_, ?_, h.self, h.lt⟩
 ·simp only [h.b]
  have := heap_set1 hc 6 v'
  simpa [runCells] using this
 ·rcases hG k hk with h1 | h1
  ·exact h.own k h1
  ·exact .inr (Nat.le_trans hs h1)
 ·refine MFr.trans ?_ (MFr.of_set _ (by simp [entF]))
  refine ⟨hm.os.trans h.fr.os, hm.tape.trans h.fr.tape, hm.output.trans h.fr.output, Nat.le_trans hs hm.size, fun b hb hbn => ?_⟩
  refine (hm.block b (by omega) (fun hk => ?_)).trans (h.fr.block b hb hbn)
  rcases h.own b hk with h1 | h1
  ·exact hbn (List.mem_cons_of_mem _ h1)
  ·omega
end
theorem EngX.mid {lo : Nat} {w : World} {W : Web} {roots : List ByteArray} {R : List Run} {e : Nat} {F : List Nat} {m : Nat} {nv rv : Value} {L : List Ent} {Fr : List Nat} {W0 : World} {tN tS tC : Nat} (h : EngX lo w W roots R e F m nv rv L Fr W0 tN tS tC) {x : Ent} (hx : x ∈ L) : Md w x w x := by
 have hnd := h.nodup
 rw [h.foot] at hnd
 have h3 := (List.nodup_append.1 (List.nodup_cons.1 (List.nodup_cons.1 hnd).2).2).2.1
 obtain ⟨A, B, rfl⟩ := List.append_of_mem hx
 rw [entsF_append] at h3
 have h4 := (List.nodup_append.1 h3).2.1
 unfold entsF at h4
 rw [List.flatMap_cons] at h4
 have h5 := (List.nodup_append.1 h4).1
 obtain ⟨n1, n2⟩ := List.nodup_cons.1 h5
 exact ⟨h.runs x hx, rfl, rfl, n2, fun k hk => .inl hk, MFr.refl _ _, n1, lt_of_heap (h.runs x hx).1⟩
/-- the unit is done -/
theorem EngX.done {lo : Nat} {w wk : World} {W : Web} {roots : List ByteArray} {R : List Run} {e : Nat} {F : List Nat} {m : Nat} {nv rv : Value} {L : List Ent} {Fr : List Nat} {W0 : World} {tN tS tC : Nat} (h : EngX lo w W roots R e F m nv rv L Fr W0 tN tS tC) {x y : Ent} (hx : x ∈ L) (hm : Md w x wk y) : EngP lo W roots (setR y.r R) e F w wk := by
 obtain ⟨h1, h2, h3⟩ := h.put hx hm.name hm.b hm.run hm.nod hm.own hm.fr
 exact ⟨_, h1, h2, h3⟩
/-- append of one string onto texts of the run's own, in a drawn region -/
theorem step_appG {Pg : Program} {w : World} {ops : Array Oper} {o : Oper} {a : Act} {K : Act → World → Prop} {Q : Exit → Act → World → Prop} {E : Prop} (hgd : o.guard = none) {s x : Operand} {t : TypeId} (ho : o.op = .call { callee := .builtin .append, args := #[s, x], argTypes := #[t, t] }) {by_ : Nat} {z : Value} (ht : Pg.underlying t = some (.slice 9))
  (hi : (Pg.info? 9).map (fun i => (i.zero, i.size, i.bytes)) = some (some z, 1, by_)) (hzs : z.cells.size = 1) {v : Value} (hs : a.eval s = v) {xs : List ByteArray} {q : ByteArray} {F : List Nat} (hown : own w (strsT 9 xs) v F)
  {B : Nat} (hx : a.eval x = .slice (some ⟨B, 0, none⟩) 1 1) {ty : TypeId} {fr : Nat × Nat} (hB : w.heap[B]? = some (.cells #[.string q] ty fr)) (h63 : xs.length + 1 ≤ maxLen) (hbytes : (xs.length + 1) * by_ ≤ 140737488355328)
  (h : ∀ v' w' F2, own w' (strsT 9 (xs ++ [q])) v' F2 → (∀ k ∈ F2, k ∈ F ∨ k = w.heap.size) → (F.Nodup → F2.Nodup) → MFr F w w' → K (a.put o.dst v') w') :
  if Region.wanted o (yielded ops a.tmps) = true then Oper.wp Pg o a w K Q else E := by
 have hw : Region.wanted o (yielded ops a.tmps) = true := by simp [Region.wanted, hgd]
 rw [if_pos hw]
 have hq : owns w [T.s q] [.string q] [] := by simp [owns, own]
 obtain ⟨v', w', F2, hr, h2, h3, h4, _, row, h6, h7⟩ := run_app (P := Pg) (w := w) t o.type ht hi hzs (by decide) (m := 1) (c := 1) (A := some ⟨B, 0, none⟩) hown (fun h => by cases h) (fun _ => ⟨_, rfl, fun j u hj => World.news_of_block hB j u (by simpa using hj)⟩) rfl hq (fun k _ _ hk => by cases hk) h63 hbytes
 unfold Oper.wp execOp
 simp only [ho, resolve, invoke, builtin, Sem.run_bind, Sem.run_pure, Result.andThen_ok, List.map_toArray, List.map_cons, List.map_nil, hs, hx, hr]
 refine h v' w' F2 (by rw [strsT_snoc]; exact h2) (fun k hk => (h3 k hk).elim .inl (fun h => h.elim (fun h => by cases h) .inr)) (fun hn => h4 hn List.nodup_nil (fun k hk => by cases hk)) ⟨h6.os, h6.tape, h6.output, h6.size, fun b hb hbn => h6.block b hb (fun he => hbn (h7 b he.symm))⟩
end Go.Proofs.YtkpkfihaihoaeaaGreatDoor.M
end
section
set_option linter.unusedVariables false
set_option linter.unusedSimpArgs false
namespace Go.Proofs.YtkpkfihaihoaeaaGreatDoor.M
open Go.RowKit

theorem join_calls {t : Nat} (ts : List ByteArray) (v : Value) (w : World) (h : rep w (strsT t ts) v) (hok : ts.all txtOk = true) (hn : ts.length ≤ 100) :
  Calls Tryz.prog 183 #[v, .string ⟨#[44]⟩] w fun e w' => e = .returned (.string (joinB ts)) ∧ Below w.heap.size w w' := by
 obtain ⟨A, c, rfl, hc, _⟩ := rep_len h
 rcases Nat.eq_zero_or_pos ts.length with h0 | h0
 ·obtain rfl : ts = [] := List.eq_nil_of_length_eq_zero h0
  refine (Tryz.strings_Join_none A c ⟨#[44]⟩ w).mono ?_
  rintro e w' ⟨rfl, rfl⟩
  exact ⟨by rw [joinB_nil], Below.refl _ _⟩
 ·obtain ⟨a, c', he, hcell⟩ := str_elem h h0
  cases he
  have hlt := World.block_lt_of_cell? w _ hcell
  obtain ⟨bk, o, sp⟩ := a
  obtain rfl : sp = none := by
   cases sp with
   | none => rfl
   | some q =>
    simp [World.cell?, Addr.add] at hcell
    split at hcell <;> simp at hcell
  have hadd : ∀ j, (⟨bk, o, none⟩ : Addr).add j = ⟨bk, o + j, none⟩ := fun j => by unfold Addr.add; split <;> simp_all
  rw [hadd] at hlt
  refine (Tryz.strings_Join bk o c ts ⟨#[44]⟩ w (fun j x hj => ?_) hlt (by omega) hc ?_).mono ?_
  ·obtain ⟨hj', rfl⟩ := List.getElem?_eq_some_iff.1 hj
   obtain ⟨a, c', he, hcell⟩ := str_elem h hj'
   cases he
   rw [hadd] at hcell
   exact hcell
  ·have h1 := joinB_size ts hok
   have h2 : (joinB ts).size = (Lib.join (ts.map (·.data.toList)) [44]).length := by unfold joinB; simp [ByteArray.size]
   rw [h2] at h1
   show (Lib.join (ts.map (·.data.toList)) [44]).length ≤ _
   omega
  ·rintro e w' ⟨rfl, hb⟩
   exact ⟨rfl, hb⟩

set_option maxRecDepth 100000 in
set_option maxHeartbeats 2000000 in
theorem Finish_calls {t : Nat} (give : ByteArray) (ts : List ByteArray) (v : Value) (w : World) (h : rep w (strsT t ts) v) (hgs : give.size ≤ 9223372036854775807) (hz : ∀ x ∈ ts, x.size ≤ 9223372036854775807) (hg : 3 < w.heap.size) (ht : w.cell? ⟨3, 15, none⟩ = some (.int .u8 4)) :
  Calls Tryz.prog 150 #[.string give, v] w fun e w' => e = .returned (.string (finish give ts)) ∧ Below w.heap.size w w' := by
 obtain ⟨A, c, rfl, _, hn⟩ := rep_len h
 have H := Asd.mk h
 replace hz := Asd.mk hz
 by_cases p1 : 30 < give.size
 ·have e1 := Hid.mk' (show finish give ts = ⟨#[]⟩ by simp [finish, p1])
  have i1 : (30 : Int) < (give.size : Nat) := by omega
  go_enter Tryz.func150, Tryz.ntmps150
  go_wp2
  go_ret
  exact ⟨by rw [e1.out]; rfl, Below.refl _ _⟩
 have i1 : ¬(30 : Int) < (give.size : Nat) := by omega
 by_cases p2 : 100 < ts.length
 ·have e1 := Hid.mk' (show finish give ts = ⟨#[]⟩ by simp [finish, p2])
  have i2 : (100 : Int) < (ts.length : Nat) := by omega
  go_enter Tryz.func150, Tryz.ntmps150
  go_wp2
  go_ret
  exact ⟨by rw [e1.out]; rfl, Below.refl _ _⟩
 have i2 : ¬(100 : Int) < (ts.length : Nat) := by omega
 go_enter Tryz.func150, Tryz.ntmps150
 go_wp2
 go_loop [21] (fun i => ∃ k : Nat, k ≤ ts.length ∧ i = .int .i64 k ∧ allTo txtOk ts k) (fun i => ts.length - (intOf i).toNat)
 case atStart => exact ⟨0, by omega, rfl, allTo_zero _ _⟩
 case round =>
  obtain ⟨k, hk, rfl, hA⟩ := hrel
  by_cases hlt : k < ts.length
  ·obtain ⟨a, c', he, hcell⟩ := str_elem H.out hlt
   cases he
   have hs := hz.out _ (List.getElem_mem hlt)
   by_cases hx : ts[k].size ≤ 200
   ·have e1 := allTo_succ (p := txtOk) hA hlt (by simp [txtOk, hx])
    have i3 : ¬(200 : Int) < (ts[k].size : Nat) := by omega
    go_wp2
    go_round
    case rel => exact ⟨k + 1, by omega, by go_num, e1⟩
    case measure => simp [intOf]; omega
   ·have e1 := Hid.mk' (show finish give ts = ⟨#[]⟩ by unfold finish; rw [allTo_not (p := txtOk) hlt (by simp [txtOk]; omega)]; simp)
    have i3 : (200 : Int) < (ts[k].size : Nat) := by omega
    go_wp2
    go_ret
    exact ⟨by rw [e1.out]; rfl, Below.refl _ _⟩
  ·obtain rfl : k = ts.length := by omega
   have hok := allTo_end hA
   have hjs := joinB_size ts hok
   have hjs' : (joinB ts).size ≤ 20100 := by omega
   have hok' := Asd.mk hok
   clear hA hok hlt hk hjs
   go_wp2_with (fail)
   refine (join_calls ts _ _ H.out hok'.out (by omega)).mono ?_
   rintro e w1 ⟨rfl, hb1⟩
   have hb1' := Asd.mk hb1
   have hg1 : 3 < w1.heap.size := by have := hb1.size; omega
   have ht1 := cell_below hb1 ht
   clear hb1
   obtain ⟨s, hs⟩ : ∃ s, give ++ ⟨#[40]⟩ ++ joinB ts ++ ⟨#[41]⟩ = s := ⟨_, rfl⟩
   have hw : whole give ts = s := hs
   have hss : s.size ≤ 30000 := by rw [← hs]; simp only [ByteArray.size_append]; have : (⟨#[40]⟩ : ByteArray).size = 1 := rfl; have : (⟨#[41]⟩ : ByteArray).size = 1 := rfl; omega
   replace hw := Asd.mk hw
   by_cases q : s.size ≤ 200
   ·have e1 := Hid.mk' (show finish give ts = s by unfold finish; rw [hw.out, hok'.out]; simp [p1, p2, q])
    have i3 : (s.size : Int) ≤ 200 := by omega
    go_wp2
    go_ret
    exact ⟨by rw [e1.out]; rfl, hb1'.out⟩
   ·have e1 := Hid.mk' (show finish give ts = ⟨#[35]⟩ ++ strOfNums (hexK 16 (hashTo s s.size)) by unfold finish; rw [hw.out, hok'.out]; simp [p1, p2, q])
    have i3 : ¬(s.size : Int) ≤ 200 := by omega
    go_wp2
    clear hs
    go_loop [8, 9] (fun a i => ∃ k : Nat, k ≤ s.size ∧ i = .int .i64 k ∧ a = .int .u64 (hashTo s k : Nat)) (fun _ i => s.size - (intOf i).toNat)
    case atStart => exact ⟨0, by omega, rfl, by rw [hashTo_zero]; rfl⟩
    case round =>
     obtain ⟨k, hk, rfl, rfl⟩ := hrel
     by_cases hlt : k < s.size
     ·have e2 := hashStep s k hlt
      have e4 : IntKind.u64.wrap ((s[k].toNat : Nat) : Int) = ((s[k].toNat : Nat) : Int) := by rw [IntKind.wrap_u64]; have := s[k].toNat_lt; omega
      obtain ⟨H0, hH0⟩ : ∃ H0 : Nat, hashTo s k = H0 := ⟨_, rfl⟩
      obtain ⟨H1, hH1⟩ : ∃ H1 : Nat, hashTo s (k + 1) = H1 := ⟨_, rfl⟩
      have e3 := Asd.mk hH1
      rw [hH0, hH1] at e2
      rw [hH0]
      clear hH0 hH1
      go_wp2
      go_round
      case rel => exact ⟨k + 1, by omega, by go_num, by rw [e3.out]; first | done | rfl | rw [e4, e2] | rw [e2]⟩
      case measure => simp [intOf]; omega
     ·obtain rfl : k = s.size := by omega
      have hl := hashTo_lt s s.size
      obtain ⟨n, hn'⟩ : ∃ n : Nat, hashTo s s.size = n := ⟨_, rfl⟩
      rw [hn'] at e1 hl ⊢
      have hlen := hexL_len n hl
      go_wp2_with (fail)
      refine (FormatUint_calls n hl _ hg1 ht1).mono ?_
      obtain ⟨d, hd⟩ : ∃ d, strOfNums (hexL n) = d := ⟨_, rfl⟩
      have hp := pad16 n hl
      have hds : d.size = (hexL n).length := by rw [← hd]; exact strOfNums_size _
      obtain ⟨L, hL⟩ : ∃ L, (hexL n).length = L := ⟨_, rfl⟩
      rw [hd, hL] at hp
      rw [hL] at hds hlen
      rw [hd]
      rintro e w2 ⟨rfl, hb2⟩
      have hb2' := Asd.mk hb2
      clear hb2
      have hcnt : (16 : Int) - (L : Nat) = ((16 - L : Nat) : Int) := by omega
      have hcnt := Asd.mk hcnt
      replace e1 := Hid.mk' (show finish give ts = ⟨#[35]⟩ ++ ((⟨(Lib.repeatL [48] (16 - L)).toArray⟩ : ByteArray) ++ d) by rw [hp]; exact e1.out)
      go_wp2_with (fail)
      refine (Tryz.strings_Repeat ⟨#[48]⟩ (16 - L) _ (by omega) (by have : (⟨#[48]⟩ : ByteArray).size = 1 := rfl; rw [this]; omega)).mono ?_
      rintro e w3 ⟨rfl, hb3⟩
      have hb3' := Asd.mk hb3
      clear hb3
      have hrs : (⟨(Lib.repeatL [48] (16 - L)).toArray⟩ : ByteArray).size = 16 - L := by
       have := Lib.repeatL_length [48] (16 - L)
       simpa [ByteArray.size] using this
      have he : Lib.repeatL (ByteArray.data ⟨#[48]⟩).toList (16 - L) = Lib.repeatL [48] (16 - L) := rfl
      rw [he]
      obtain ⟨r, hr⟩ : ∃ r : ByteArray, (⟨(Lib.repeatL [48] (16 - L)).toArray⟩ : ByteArray) = r := ⟨_, rfl⟩
      rw [hr] at hrs e1 ⊢
      go_wp2
      go_ret
      exact ⟨by rw [e1.out, ByteArray.append_assoc]; rfl, below_st (below_st hb1'.out hb2'.out) hb3'.out⟩
end Go.Proofs.YtkpkfihaihoaeaaGreatDoor.M
end
section
set_option linter.unusedVariables false
set_option linter.unusedSimpArgs false
namespace Go.Proofs.YtkpkfihaihoaeaaGreatDoor.M
open Go.RowKit
def DoP (lo : Nat) (W : Web) (roots : List ByteArray) (R' : List Run) (e : Nat) (F : List Nat) (w : World) (e' : Ending) (w' : World) : Prop := e' = .returned (.tuple #[]) ∧ EngP lo W roots R' e F w w'
set_option maxRecDepth 100000 in
set_option maxHeartbeats 4000000 in
/-- a run that is spent -/
theorem do_spent {lo : Nat} {W : Web} {roots : List ByteArray} {R : List Run} {e : Nat} {F : List Nat} {m : Nat} {nv rv : Value} {L : List Ent} {Fr : List Nat} {W0 : World} {tN tS tC : Nat} (q : ByteArray) (r : Run) (w : World) (hX : EngX lo w W roots R e F m nv rv L Fr W0 tN tS tC) (hq : runOf R q = some r) (hv : r.Visits = 20) :
  Calls Tryz.prog 85 #[.pointer (some ⟨e, 0, none⟩), .string q] w (DoP lo W roots (setR { r with Over := true, Fail := true, Text := spentT } R) e F w) := by
 obtain ⟨A, c, B, d, rfl, rfl, _, _, c0, c1, c2⟩ := hX.cells
 obtain ⟨x, hx, hxr, hl⟩ := hX.run_some hq
 subst hxr
 have hm := Asd.mk (hX.mid hx)
 have hc := hm.out.cells
 have y5 : w.cell? ⟨x.b, 5, none⟩ = some (.int .i64 20) := by rw [← hv]; exact cellOf hc rfl
 have y1 : w.cell? ⟨x.b, 1, none⟩ = some (.bool x.r.Over) := cellOf hc rfl
 have y2 : w.cell? ⟨x.b, 2, none⟩ = some (.bool x.r.Fail) := cellOf hc rfl
 have y3 : w.cell? ⟨x.b, 3, none⟩ = some (.string x.r.Text) := cellOf hc rfl
 have f1 := frozenOf hc 1
 have f2 := frozenOf hc 2
 have f3 := frozenOf hc 3
 clear hc
 replace hX := Asd.mk hX
 replace hx := Asd.mk hx
 go_enter Tryz.func85, Tryz.ntmps85
 go_wp2
 go_end0
 have s1 := hm.out.set (i := 1) (u := .bool true) (r' := { x.r with Over := true }) rfl rfl rfl
 have s2 := s1.set (i := 2) (u := .bool true) (r' := { x.r with Over := true, Fail := true }) rfl rfl rfl
 have s3 := s2.set (i := 3) (u := .string spentT) (r' := { x.r with Over := true, Fail := true, Text := spentT }) rfl rfl rfl
 exact ⟨rfl, hX.out.done hx.out s3⟩
end Go.Proofs.YtkpkfihaihoaeaaGreatDoor.M
end
section
set_option linter.unusedVariables false
set_option linter.unusedSimpArgs false
namespace Go.Proofs.YtkpkfihaihoaeaaGreatDoor.M
open Go.RowKit
theorem Md.base {w P : World} {x : Ent} (h : Md w x P x) : Md P x P x := ⟨h.run, rfl, rfl, h.nod, fun k hk => .inl hk, MFr.refl _ _, h.self, lt_of_heap h.run.1⟩
theorem Md.join {w P Q : World} {x y : Ent} (h : Md w x P x) (k : Md P x Q y) : Md w x Q y :=
 ⟨k.run, k.b, k.name, k.nod, fun j hj => (k.own j hj).imp id (fun h2 => Nat.le_trans h.size h2), h.fr.trans k.fr, h.self, h.lt⟩
/-- the run on its way, the action's cells at block ab -/
structure DoM (w : World) (x : Ent) (ab : Nat) (a : Action) (As : Option Addr) (cs : Nat) (r1 : Run) (X : World) : Prop where
 mid : ∃ y, Md w x X y ∧ y.r = r1
 act : X.heap[ab]? = some (.cells #[.int .i64 a.Cost, .slice As a.Steps.length cs] 111 (0, 0))
theorem EngX.webs {lo : Nat} {w : World} {W : Web} {roots : List ByteArray} {R : List Run} {e : Nat} {F : List Nat} {m : Nat} {nv rv : Value} {L : List Ent} {Fr : List Nat} {W0 : World} {tN tS tC : Nat} (h : EngX lo w W roots R e F m nv rv L Fr W0 tN tS tC) {x y : Ent} (hx : x ∈ L) {X : World} (hm : Md w x X y) : Below W0.heap.size W0 X :=
 (hm.fr.mono (mem_foot h hx)).below0 h.above h.low h.below
set_option maxRecDepth 100000 in
set_option maxHeartbeats 8000000 in
theorem do_go {lo : Nat} {W : Web} {roots : List ByteArray} {R : List Run} {e : Nat} {F : List Nat} {m : Nat} {nv rv : Value} {L : List Ent} {Fr : List Nat} {W0 : World} {tN tS tC : Nat} (q : ByteArray) (r : Run) (w : World) (hX : EngX lo w W roots R e F m nv rv L Fr W0 tN tS tC) (hq : runOf R q = some r) (hw : checkWeb W = 0) (hI : Inv W R) (hrd : isReady W R r = true) (hv : r.Visits ≠ 20) (hgl : 3 < lo) (hgt : w.cell? ⟨3, 15, none⟩ = some (.int .u8 4)) :
  Calls Tryz.prog 85 #[.pointer (some ⟨e, 0, none⟩), .string q] w (DoP lo W roots (doRun W R r) e F w) := by
 obtain ⟨ha, hn⟩ := web_asc hw
 obtain ⟨A, c, B, d, rfl, rfl, _, _, c0, c1, c2⟩ := hX.cells
 have hRk := hI.ok r (runOf_some hq).1
 obtain ⟨x, hx, hxr, hl⟩ := hX.run_some hq
 subst hxr
 have hnm : x.r.Name = q := (runOf_some hq).2
 have hm := Asd.mk (hX.mid hx)
 have y5 : w.cell? ⟨x.b, 5, none⟩ = some (.int .i64 x.r.Visits) := cellOf hm.out.cells rfl
 have hxb := hm.out.lt
 have hweb := Asd.mk (hnm ▸ hRk.web)
 have hvb : (x.r.Visits == 20) = false := by simp [hv]
 replace ha := Asd.mk ha
 obtain ⟨a, ha2⟩ : ∃ a, actOf W q = a := ⟨_, rfl⟩
 have hat : Asd (actOf W x.r.Name = a) := Asd.mk (by rw [hnm]; exact ha2)
 have hfoot := Asd.mk (mem_foot hX hx)
 have hxlt := Asd.mk (show ∀ b ∈ entF x, b < w.heap.size from fun b hb => by
  rcases List.mem_cons.1 hb with rfl | hb
  ·exact lt_of_heap hm.out.run.1
  ·exact hm.out.run.2.lt b hb)
 have hV0 := hRk.vis0
 have hV1 := hRk.vis1
 replace hX := Asd.mk hX
 replace hx := Asd.mk hx
 replace ha2 := Asd.mk ha2
 replace hnm := Asd.mk hnm
 replace hI := Asd.mk hI
 replace hv := Asd.mk hv
 go_enter Tryz.func85, Tryz.ntmps85
 go_wp2_with fail
 refine (action_calls q _ hX.out ha.out hn hweb.out).mono ?_
 rw [ha2.out]
 rintro e' w1 ⟨As, cs, rfl, hst0, _, hb⟩
 replace hst0 := Asd.mk hst0
 have hm1 := Asd.mk (hm.out.later hb)
 have hb1 := Asd.mk hb
 have hz1 := hb.size
 clear hb
 go_upto_region 4 with (fail)
 obtain ⟨Z, eZ⟩ : ∃ Z : World, Z = w1.alloc (.cells #[.int .i64 a.Cost, .slice As a.Steps.length cs] 111) := ⟨_, rfl⟩
 obtain ⟨ab, hab⟩ : ∃ ab, ab = w1.heap.size := ⟨_, rfl⟩
 have gB := Asd.mk (show Z.heap[ab]? = _ from hab ▸ eZ ▸ heap_alloc_new _ _)
 have hmZ := Asd.mk (show Md w x Z x from eZ ▸ hm1.out.later (below_al (Below.refl _ _) _))
 have hbZ := Asd.mk (show Below w.heap.size w Z from eZ ▸ below_al hb1.out _)
 rw [← eZ, ← hab]
 have zab : w.heap.size ≤ ab := by omega
 have t5 : Z.cell? ⟨x.b, 5, none⟩ = some (.int .i64 x.r.Visits) := cellOf hmZ.out.cells rfl
 have zxZ : x.b < Z.heap.size := lt_of_heap hmZ.out.cells
 have zaZ : ab < Z.heap.size := lt_of_heap gB.out
 clear eZ hab hm1 y5 hl c0 c1 c2 hz1 hb1
 obtain ⟨xs, hxs⟩ : ∃ xs, ansFor W R x.r = xs := ⟨_, rfl⟩
 go_upto_if 41 with (fail)
 go_cut [] (fun wx => onward a x.r xs ∧ DoM w x ab a As cs (midRun a x.r xs) wx)
 case first =>
  by_cases hz : x.r.Visits = 0
  ·rw [hz] at t5
   go_wp2
   go_meet
   refine ⟨.inl hz, ⟨x, hmZ.out, ?_⟩, gB.out⟩
   unfold midRun; rw [if_pos hz]
  have hz1 : 0 < x.r.Visits := by omega
  have hz2 : decide (0 < x.r.Visits) = true := by simp [hz1]
  obtain ⟨n, hK1⟩ := stepK hw hRk
  have hlt := hK1.lt
  rw [hat.out] at hlt
  have t4 : Z.cell? ⟨x.b, 4, none⟩ = some (.int .i64 (n : Int)) := by rw [← hK1.at_]; exact cellOf hmZ.out.cells rfl
  have s1 := cellOf gB.out (i := 1) rfl
  have hst : Asd (stepOf W x.r = a.Steps[n]) := Asd.mk (by have h1 := hK1.step; have h2 := hat.out; subst h2; exact h1)
  have hnms := hK1.names
  have hak := hK1.asks
  rw [hst.out] at hnms hak
  have hatn := Asd.mk hK1.at_
  obtain ⟨ad, c', v0, v2, hv2, k0, k1, k2, k3, k4, k5, k6, k7, _, _, k8⟩ := Step.elem (hst0.out.below (hX.out.webs hx.out hmZ.out)) hlt
  cases hv2
  replace k8 := Asd.mk k8
  clear hK1
  have hkeep := Asd.mk (show ∀ Y, Below Z.heap.size Z Y → (Below Z.heap.size Z Y ∧ Y.cell? ⟨ab, 1, none⟩ = some (.slice (some ad) a.Steps.length cs) ∧ Y.cell? ⟨x.b, 4, none⟩ = some (.int .i64 (n : Int)) ∧ Y.cell? (ad.add (n * 8)) = some v0 ∧ Y.cell? ⟨(ad.add (n * 8)).block, (ad.add (n * 8)).off + 1, none⟩ = some (.int .i64 a.Steps[n].On) ∧ Y.cell? ⟨(ad.add (n * 8)).block, (ad.add (n * 8)).off + 2, none⟩ = some v2 ∧ Y.cell? ⟨(ad.add (n * 8)).block, (ad.add (n * 8)).off + 3, none⟩ = some (.int .i64 a.Steps[n].Else) ∧ Y.cell? ⟨(ad.add (n * 8)).block, (ad.add (n * 8)).off + 4, none⟩ = some (.int .i64 a.Steps[n].Fall) ∧ Y.cell? ⟨(ad.add (n * 8)).block, (ad.add (n * 8)).off + 5, none⟩ = some (.bool a.Steps[n].End) ∧ Y.cell? ⟨(ad.add (n * 8)).block, (ad.add (n * 8)).off + 6, none⟩ = some (.bool a.Steps[n].Bad) ∧ Y.cell? ⟨(ad.add (n * 8)).block, (ad.add (n * 8)).off + 7, none⟩ = some (.string a.Steps[n].Give))
   from fun Y hb => ⟨hb, cell_below hb s1, cell_below hb t4, cell_below hb k0, cell_below hb k1, cell_below hb k2, cell_below hb k3, cell_below hb k4, cell_below hb k5, cell_below hb k6, cell_below hb k7⟩)
  clear k0 k1 k2 k3 k4 k5 k6 k7 s1 t4
  have s_0 : Below Z.heap.size Z Z.drew := (Below.refl _ _).drew
  go_upto_region 5 with (fail)
  refine wp_region_held_drew (S := fun Y => Below Z.heap.size Z Y ∧ Y.cell? ⟨ab, 1, none⟩ = some (.slice (some ad) a.Steps.length cs) ∧ Y.cell? ⟨x.b, 4, none⟩ = some (.int .i64 (n : Int)) ∧ Y.cell? (ad.add (n * 8)) = some v0 ∧ Y.cell? ⟨(ad.add (n * 8)).block, (ad.add (n * 8)).off + 1, none⟩ = some (.int .i64 a.Steps[n].On) ∧ Y.cell? ⟨(ad.add (n * 8)).block, (ad.add (n * 8)).off + 2, none⟩ = some v2 ∧ Y.cell? ⟨(ad.add (n * 8)).block, (ad.add (n * 8)).off + 3, none⟩ = some (.int .i64 a.Steps[n].Else) ∧ Y.cell? ⟨(ad.add (n * 8)).block, (ad.add (n * 8)).off + 4, none⟩ = some (.int .i64 a.Steps[n].Fall) ∧ Y.cell? ⟨(ad.add (n * 8)).block, (ad.add (n * 8)).off + 5, none⟩ = some (.bool a.Steps[n].End) ∧ Y.cell? ⟨(ad.add (n * 8)).block, (ad.add (n * 8)).off + 6, none⟩ = some (.bool a.Steps[n].Bad) ∧ Y.cell? ⟨(ad.add (n * 8)).block, (ad.add (n * 8)).off + 7, none⟩ = some (.string a.Steps[n].Give)) (by kernel_rfl) (hkeep.out _ s_0) (fun hHeld => ?_)
  (((refine wH 0 (v:=?_) rfl (by kernel_rfl) (fun _ _ _ h => h) (by rfl) ?_ (by assumption) ?_;rotate_left;next => ((intro X hX;(try dsimp only at hX);go_simp);try with_reducible rfl));try simp only [Act.put,List.getElem_toArray,List.getElem_cons_succ,List.getElem_cons_zero,List.setIfInBounds_toArray,List.set_cons_zero,List.set_cons_succ]); ((refine wH 1 (v:=?_) rfl (by kernel_rfl) (fun _ _ _ h => h) (by rfl) ?_ (by assumption) ?_;rotate_left;next => ((intro X hX;(try dsimp only at hX);go_simp);try with_reducible rfl));try simp only [Act.put,List.getElem_toArray,List.getElem_cons_succ,List.getElem_cons_zero,List.setIfInBounds_toArray,List.set_cons_zero,List.set_cons_succ]); ((refine wH 2 (v:=?_) rfl (by kernel_rfl) (fun _ _ _ h => h) (by rfl) ?_ (by assumption) ?_;rotate_left;next => ((intro X hX;(try dsimp only at hX);go_simp);try with_reducible rfl));try simp only [Act.put,List.getElem_toArray,List.getElem_cons_succ,List.getElem_cons_zero,List.setIfInBounds_toArray,List.set_cons_zero,List.set_cons_succ]); ((refine wH 3 (v:=?_) rfl (by kernel_rfl) (fun _ _ _ h => h) (by rfl) ?_ (by assumption) ?_;rotate_left;next => ((intro X hX;(try dsimp only at hX);go_simp);try with_reducible rfl));try simp only [Act.put,List.getElem_toArray,List.getElem_cons_succ,List.getElem_cons_zero,List.setIfInBounds_toArray,List.set_cons_zero,List.set_cons_succ]); ((refine wH 4 (v:=?_) rfl (by kernel_rfl) (fun _ _ _ h => h) (by rfl) ?_ (by assumption) ?_;rotate_left;next => ((intro X hX;(try dsimp only at hX);go_simp);try with_reducible rfl));try simp only [Act.put,List.getElem_toArray,List.getElem_cons_succ,List.getElem_cons_zero,List.setIfInBounds_toArray,List.set_cons_zero,List.set_cons_succ]); ((refine wH 5 (v:=?_) rfl (by kernel_rfl) (fun _ _ _ h => h) (by rfl) ?_ (by assumption) ?_;rotate_left;next => ((intro X hX;(try dsimp only at hX);go_simp);try with_reducible rfl));try simp only [Act.put,List.getElem_toArray,List.getElem_cons_succ,List.getElem_cons_zero,List.setIfInBounds_toArray,List.set_cons_zero,List.set_cons_succ]); ((refine wH 6 (v:=?_) rfl (by kernel_rfl) (fun _ _ _ h => h) (by rfl) ?_ (by assumption) ?_;rotate_left;next => ((intro X hX;(try dsimp only at hX);go_simp);try with_reducible rfl));try simp only [Act.put,List.getElem_toArray,List.getElem_cons_succ,List.getElem_cons_zero,List.setIfInBounds_toArray,List.set_cons_zero,List.set_cons_succ]); ((refine wH 7 (v:=?_) rfl (by kernel_rfl) (fun _ _ _ h => h) (by rfl) ?_ (by assumption) ?_;rotate_left;next => ((intro X hX;(try dsimp only at hX);go_simp);try with_reducible rfl));try simp only [Act.put,List.getElem_toArray,List.getElem_cons_succ,List.getElem_cons_zero,List.setIfInBounds_toArray,List.set_cons_zero,List.set_cons_succ]); ((refine wH 8 (v:=?_) rfl (by kernel_rfl) (fun _ _ _ h => h) (by rfl) ?_ (by assumption) ?_;rotate_left;next => ((intro X hX;(try dsimp only at hX);go_simp);try with_reducible rfl));try simp only [Act.put,List.getElem_toArray,List.getElem_cons_succ,List.getElem_cons_zero,List.setIfInBounds_toArray,List.set_cons_zero,List.set_cons_succ]))
  (refine wpAnyH_ready (rs := [9]) (by kernel_rfl) (by simp) ?_; refine AllReadyH.cons rfl (fun K hK => ?_) AllReadyH.nil)
  go_simp
  have hans := Asd.mk (ready_ans hrd hz)
  rw [hst.out, hxs] at hans
  refine (answers_calls a.Steps[n] _ (hX.out.later (below_st hbZ.out (show Below Z.heap.size Z _ from by repeat first|with_reducible (first|exact Below.refl _ _|exact s_0|refine below_al ?_ _|refine below_dr ?_ _|refine below_d1 ?_)|(with_reducible refine Below.setCell ?_ ?_ _;rotate_left;next => first|(simp;done)|(simp;omega)|omega)))) (k8.out.below (by repeat first|with_reducible (first|exact Below.refl _ _|exact s_0|refine below_al ?_ _|refine below_dr ?_ _|refine below_d1 ?_)|(with_reducible refine Below.setCell ?_ ?_ _;rotate_left;next => first|(simp;done)|(simp;omega)|omega))) ha.out hn hnms (by omega)).mono ?_
  rw [hans.out]
  rintro e' w5 ⟨v, rfl, hLx, hb⟩
  obtain ⟨Ax, cx, rfl, _, _⟩ := hLx.slice
  have hb5 := Asd.mk (below_st (show Below Z.heap.size Z _ from by repeat first|with_reducible (first|exact Below.refl _ _|exact s_0|refine below_al ?_ _|refine below_dr ?_ _|refine below_d1 ?_)|(with_reducible refine Below.setCell ?_ ?_ _;rotate_left;next => first|(simp;done)|(simp;omega)|omega)) hb)
  have hLx5 := Asd.mk (show repS (entF x) w5 (AnswersT 102 xs) (.slice Ax xs.length cx) from by
   obtain ⟨Fx, f1, _, f3⟩ := hLx
   refine repS.of_own f1 (fun b hb hb' => ?_)
   have h1 := f3 b hb
   have h2 := hxlt.out b hb'
   have h3 := hbZ.out.size
   simp at h1
   omega)
  have hxl := Asd.mk (show xs.length = a.Steps[n].Asks.length from answersOf_len hans.out)
  clear hb hLx
  refine hK.out _ _ (hkeep.out _ hb5.out) (fun hHeld => ?_)
  clear hK K
  (((refine wH 10 (v:=?_) rfl (by kernel_rfl) (fun _ _ _ h => h) (by rfl) ?_ (by assumption) ?_;rotate_left;next => ((intro X hX;(try dsimp only at hX);go_simp);try with_reducible rfl));try simp only [Act.put,List.getElem_toArray,List.getElem_cons_succ,List.getElem_cons_zero,List.setIfInBounds_toArray,List.set_cons_zero,List.set_cons_succ]); ((refine wH 11 (v:=?_) rfl (by kernel_rfl) (fun _ _ _ h => h) (by rfl) ?_ (by assumption) ?_;rotate_left;next => ((intro X hX;(try dsimp only at hX);go_simp);try with_reducible rfl));try simp only [Act.put,List.getElem_toArray,List.getElem_cons_succ,List.getElem_cons_zero,List.setIfInBounds_toArray,List.set_cons_zero,List.set_cons_succ]); ((refine wH 12 (v:=?_) rfl (by kernel_rfl) (fun _ _ _ h => h) (by rfl) ?_ (by assumption) ?_;rotate_left;next => ((intro X hX;(try dsimp only at hX);go_simp);try with_reducible rfl));try simp only [Act.put,List.getElem_toArray,List.getElem_cons_succ,List.getElem_cons_zero,List.setIfInBounds_toArray,List.set_cons_zero,List.set_cons_succ]); ((refine wH 13 (v:=?_) rfl (by kernel_rfl) (fun _ _ _ h => h) (by rfl) ?_ (by assumption) ?_;rotate_left;next => ((intro X hX;(try dsimp only at hX);go_simp);try with_reducible rfl));try simp only [Act.put,List.getElem_toArray,List.getElem_cons_succ,List.getElem_cons_zero,List.setIfInBounds_toArray,List.set_cons_zero,List.set_cons_succ]); ((refine wH 14 (v:=?_) rfl (by kernel_rfl) (fun _ _ _ h => h) (by rfl) ?_ (by assumption) ?_;rotate_left;next => ((intro X hX;(try dsimp only at hX);go_simp);try with_reducible rfl));try simp only [Act.put,List.getElem_toArray,List.getElem_cons_succ,List.getElem_cons_zero,List.setIfInBounds_toArray,List.set_cons_zero,List.set_cons_succ]))
  refine wpAnyH_done (by kernel_rfl) ?_ _
  have hm5 := Asd.mk (hmZ.out.later hb5.out)
  have g5 := Asd.mk ((hb5.out.block ab zaZ).trans gB.out)
  have a0 := cellOf g5.out (i := 0) rfl
  have a1 := cellOf g5.out (i := 1) rfl
  have r4 : w5.cell? ⟨x.b, 4, none⟩ = some (.int .i64 (n : Int)) := by rw [← hatn.out]; exact cellOf hm5.out.cells rfl
  have hbw5 := Asd.mk (below_st hbZ.out hb5.out)
  have zx5 : x.b < w5.heap.size := lt_of_heap hm5.out.cells
  have za5 : ab < w5.heap.size := lt_of_heap g5.out
  clear hkeep hHeld s_0 hb5 t5 hmZ gB hbZ zxZ zaZ
  have hkeep := Asd.mk (show ∀ Y, Below w5.heap.size w5 Y → (Below w5.heap.size w5 Y ∧ Y.cell? ⟨ab, 0, none⟩ = some (.int .i64 a.Cost) ∧ Y.cell? ⟨ab, 1, none⟩ = some (.slice (some ad) a.Steps.length cs) ∧ Y.cell? ⟨x.b, 4, none⟩ = some (.int .i64 (n : Int))) from fun Y hb => ⟨hb, cell_below hb a0, cell_below hb a1, cell_below hb r4⟩)
  have hact := act_ok hw hRk.web
  rw [hat.out] at hact
  have hEn : a.Steps[n].End = false := by
   have := hRk.mid (ready_over hrd) hz1
   rw [hst.out] at this; exact this
  obtain ⟨g, hg⟩ : ∃ g, followS a.Steps[n] xs = g := ⟨_, rfl⟩
  have hg1 : Asd (followS (stepIn a x.r.At) xs = g) := Asd.mk (by
   rw [← hg]
   have h1 := hst.out
   unfold stepOf at h1
   rw [hat.out] at h1
   rw [h1])
  have hon0 := Asd.mk (step_on hact hlt hEn hxl.out)
  replace hg := Asd.mk hg
  go_upto_region 6 with (fail)
  go_cut [8] (fun s8 wx => ∃ gb, s8 = .pointer (some ⟨gb, 0, none⟩) ∧ w5.heap.size ≤ gb ∧ wx.heap[gb]? = some (.cells #[.int .i64 g.Code, .bool g.Over, .int .i64 g.At, .string g.Text] 177 (0, 0)) ∧ Below w5.heap.size w5 wx)
  case first =>
   have s_0 : Below w5.heap.size w5 w5.drew := (Below.refl _ _).drew
   go_region_held3 (fun Y => Below w5.heap.size w5 Y ∧ Y.cell? ⟨ab, 0, none⟩ = some (.int .i64 a.Cost) ∧ Y.cell? ⟨ab, 1, none⟩ = some (.slice (some ad) a.Steps.length cs) ∧ Y.cell? ⟨x.b, 4, none⟩ = some (.int .i64 (n : Int))) ((refine hkeep.out _ ?_; (repeat first|with_reducible (first|exact Below.refl _ _|exact s_0|refine below_al ?_ _|refine below_dr ?_ _|refine below_d1 ?_)|(with_reducible refine Below.setCell ?_ ?_ _;rotate_left;next => first|(simp;done)|(simp;omega)|omega))))
    (first | (go_at_call 149; refine (follow_calls a n xs _ _ (Action.rmk a (hst0.out.below ((hX.out.webs hx.out hm5.out).trans ((show Below w5.heap.size w5 _ from by repeat first|with_reducible (first|exact Below.refl _ _|exact s_0|refine below_al ?_ _|refine below_dr ?_ _|refine below_d1 ?_)|(with_reducible refine Below.setCell ?_ ?_ _;rotate_left;next => first|(simp;done)|(simp;omega)|omega)).mono (hX.out.webs hx.out hm5.out).size)))) (hLx5.out.rep.below (by repeat first|with_reducible (first|exact Below.refl _ _|exact s_0|refine below_al ?_ _|refine below_dr ?_ _|refine below_d1 ?_)|(with_reducible refine Below.setCell ?_ ?_ _;rotate_left;next => first|(simp;done)|(simp;omega)|omega))) hlt hxl.out hon0.out hnms).mono ?_; rw [hg.out]; rintro e' w2 ⟨rfl, hb⟩; obtain ⟨s_0, s_1, s_2, s_3⟩ := hkeep.out _ (below_st (show Below w5.heap.size w5 _ from by repeat first|with_reducible (first|exact Below.refl _ _|exact s_0|refine below_al ?_ _|refine below_dr ?_ _|refine below_d1 ?_)|(with_reducible refine Below.setCell ?_ ?_ _;rotate_left;next => first|(simp;done)|(simp;omega)|omega)) hb); obtain ⟨hcx, hfx⟩ := bcell hb; replace hb := Asd.mk hb; simp only [goneV]))
   all_goals (go_wp2_with fail; go_meet)
   ·exact ⟨_, rfl, (s_0).size, heap_alloc_new _ _, by repeat first|with_reducible (first|exact Below.refl _ _|exact s_0|refine below_al ?_ _|refine below_dr ?_ _|refine below_d1 ?_)|(with_reducible refine Below.setCell ?_ ?_ _;rotate_left;next => first|(simp;done)|(simp;omega)|omega)⟩
   ·refine ⟨_, rfl, Nat.le_refl _, ?_, by repeat first|with_reducible (first|exact Below.refl _ _|exact s_0|refine below_al ?_ _|refine below_dr ?_ _|refine below_d1 ?_)|(with_reducible refine Below.setCell ?_ ?_ _;rotate_left;next => first|(simp;done)|(simp;omega)|omega)⟩
    exact heap_set1 (heap_set1 (heap_set1 (heap_set1 ((hb.out.block _ (by simp)).trans (heap_alloc_new _ _)) 0 _) 1 _) 2 _) 3 _
  case rest =>
   obtain ⟨gb, rfl, zgb, gG, hbc⟩ := hcut
   obtain ⟨Vw, eP⟩ : ∃ Vw, Vw = wc := ⟨_, rfl⟩
   rw [← eP] at gG hbc ⊢
   clear eP wc hkeep a0 a1 r4
   have hmP := Asd.mk (hm5.out.later hbc)
   have gP := Asd.mk ((hbc.block ab za5).trans g5.out)
   have hLxP := Asd.mk (hLx5.out.later hbc)
   have zxP : x.b < Vw.heap.size := lt_of_heap hmP.out.cells
   have zaP : ab < Vw.heap.size := lt_of_heap gP.out
   have zgP : gb < Vw.heap.size := lt_of_heap gG
   have zxg : x.b ≠ gb := by omega
   have g1 := cellOf gG (i := 1) rfl
   have g2 := cellOf gG (i := 2) rfl
   have g3 := cellOf gG (i := 3) rfl
   have t5 : Vw.cell? ⟨x.b, 5, none⟩ = some (.int .i64 x.r.Visits) := cellOf hmP.out.cells rfl
   replace gG := Asd.mk gG
   have zw5 : w.heap.size ≤ w5.heap.size := hbw5.out.size
   clear hbc hm5 g5 hLx5 hbw5 zx5 za5
   have hV19 : x.r.Visits ≤ 19 := by have := hv.out; omega
   cases hO : g.Over with
   | true =>
    rw [hO] at g1
    have e1 := Asd.mk (nextRun_over (a := a) (xs := xs) hv.out hz (by rw [hg1.out]; exact hO))
    have t1 : Vw.cell? ⟨x.b, 1, none⟩ = some (.bool x.r.Over) := cellOf hmP.out.cells rfl
    have t2 : Vw.cell? ⟨x.b, 2, none⟩ = some (.bool x.r.Fail) := cellOf hmP.out.cells rfl
    have t3 : Vw.cell? ⟨x.b, 3, none⟩ = some (.string x.r.Text) := cellOf hmP.out.cells rfl
    have fr : ∀ o, Vw.frozen? ⟨x.b, o, none⟩ = false := fun o => frozenOf hmP.out.cells o
    go_upto_region 9 with (fail)
    go_region
    go_wp2
    go_end0
    have s1 := hmP.out.set (i := 5) (u := .int .i64 (x.r.Visits + 1)) (r' := { x.r with Visits := x.r.Visits + 1 }) rfl rfl rfl
    have s2 := s1.set (i := 1) (u := .bool true) (r' := { x.r with Visits := x.r.Visits + 1, Over := true }) rfl rfl rfl
    have s3 := s2.set (i := 2) (u := .bool true) (r' := { x.r with Visits := x.r.Visits + 1, Over := true, Fail := true }) rfl rfl rfl
    have s4 := s3.set (i := 3) (u := .string g.Text) (r' := { x.r with Visits := x.r.Visits + 1, Over := true, Fail := true, Text := g.Text }) rfl rfl rfl
    have s5 := s4.later (below_d1 (Below.refl _ _))
    refine ⟨rfl, ?_⟩
    rw [show doRun W R x.r = setR { x.r with Visits := x.r.Visits + 1, Over := true, Fail := true, Text := g.Text } R from by unfold doRun nextOf; rw [hat.out, hxs, e1.out, hg1.out]; rfl]
    exact hX.out.done hx.out s5
   | false =>
    rw [hO] at g1
    have hmB := Asd.mk hmP.out.base
    have hTl : x.r.Texts.length ≤ 100 := by have := hRk.many; omega
    have hxl5 : xs.length ≤ 5 := by have := hxl.out; omega
    have zge : gb ∉ entF x := fun h => by have := hxlt.out gb h; omega
    have zae : ab ∉ entF x := fun h => by have := hxlt.out ab h; omega
    clear t5 g3
    go_wp2
    go_loopw [84] (fun i wr => ∃ (k : Nat) (y : Ent), k ≤ xs.length ∧ i = .int .i64 k ∧ Md Vw x wr y ∧ y.r = { x.r with Texts := x.r.Texts ++ gdTo xs k }) (fun i _ => xs.length - (intOf i).toNat)
    case atStart => exact ⟨0, x, by omega, rfl, hmB.out, by rw [gdTo_zero, List.append_nil]⟩
    case round =>
     obtain ⟨k, y, hk, rfl, hmk, hyr⟩ := hrel
     have hgl := gdTo_len xs k
     by_cases hlt2 : k < xs.length
     ·obtain ⟨adx, c', he, n0, n1, _⟩ := Answer.elem (hLxP.out wr hmk.fr) hlt2
      cases he
      have hmk2 := Asd.mk hmk
      have hyr2 := Asd.mk hyr
      clear hmk hyr
      cases hf : xs[k].Fail with
      | true =>
       rw [hf] at n0
       have e1 := Asd.mk (gdTo_no hlt2 hf)
       go_wp2
       go_roundw
       case rel => exact ⟨k + 1, y, by omega, by go_num, hmk2.out.later (by repeat first|with_reducible (first|exact Below.refl _ _|exact Below.refl _ _|refine below_al ?_ _|refine below_dr ?_ _|refine below_d1 ?_)|(with_reducible refine Below.setCell ?_ ?_ _;rotate_left;next => first|(simp;done)|(simp;omega)|omega)), by rw [e1.out]; exact hyr2.out⟩
       case measure => simp [intOf]; omega
      | false =>
       rw [hf] at n0
       have e1 := Asd.mk (gdTo_yes hlt2 hf)
       obtain ⟨tx, htx⟩ : ∃ tx, xs[k].Text = tx := ⟨_, rfl⟩
       rw [htx] at n1 e1
       go_upto_region 14 with (fail)
       obtain ⟨yb, hyb⟩ : ∃ yb, yb = wr.heap.size := ⟨_, rfl⟩
       obtain ⟨Q1, eQ⟩ : ∃ Q1 : World, Q1 = wr.alloc (.cells #[.bool false, .string tx] 102) := ⟨_, rfl⟩
       rw [← eQ, ← hyb]
       have hm1 := Asd.mk (show Md Vw x Q1 y from eQ ▸ hmk2.out.later (below_al (Below.refl _ _) _))
       have qy : Q1.cell? ⟨yb, 1, none⟩ = some (.string tx) := by rw [eQ, hyb]; go_simp
       have zyG : yb ∉ y.G := fun h => by have := hmk2.out.run.2.lt yb h; omega
       have zyx : x.b ≠ yb := by have := lt_of_heap hmk2.out.cells; omega
       clear eQ hyb hmk2 n0 n1
       obtain ⟨At, ct, hyv, _, _⟩ := own_slice hm1.out.run.2
       have q6 : Q1.cell? ⟨x.b, 6, none⟩ = some (.slice At y.r.Texts.length ct) := by rw [← hyv]; exact cellOf hm1.out.cells (i := 6) rfl
       have fq : ∀ o, Q1.frozen? ⟨x.b, o, none⟩ = false := fun o => frozenOf hm1.out.cells o
       have hyl : y.r.Texts.length ≤ 105 := by rw [hyr2.out]; simp; omega
       have zx1 : x.b < Q1.heap.size := lt_of_heap hm1.out.cells
       have zy1 : yb < Q1.heap.size := World.block_lt_of_cell? _ _ qy
       refine wp_region_G (last := 11) (S := fun Y => Y.cell? ⟨x.b, 6, none⟩ = some (.slice At y.r.Texts.length ct) ∧ Y.cell? ⟨yb, 1, none⟩ = some (.string tx)) (by kernel_rfl) ?_
       have hH : Q1.drew.cell? ⟨x.b, 6, none⟩ = some (.slice At y.r.Texts.length ct) ∧ Q1.drew.cell? ⟨yb, 1, none⟩ = some (.string tx) := ⟨q6, qy⟩
       (((refine wG 0 (v:=?_) rfl rfl (by kernel_rfl) (fun _ _ _ h => h) (by rfl) ?_ (by assumption) ?_;rotate_left;next => ((intro X hX;(try dsimp only at hX);go_simp);try with_reducible rfl));try simp only [Act.put,List.getElem_toArray,List.getElem_cons_succ,List.getElem_cons_zero,List.setIfInBounds_toArray,List.set_cons_zero,List.set_cons_succ]); ((refine wG 1 (v:=?_) rfl rfl (by kernel_rfl) (fun _ _ _ h => h) (by rfl) ?_ (by assumption) ?_;rotate_left;next => ((intro X hX;(try dsimp only at hX);go_simp);try with_reducible rfl));try simp only [Act.put,List.getElem_toArray,List.getElem_cons_succ,List.getElem_cons_zero,List.setIfInBounds_toArray,List.set_cons_zero,List.set_cons_succ]); ((refine wG 2 (v:=?_) rfl rfl (by kernel_rfl) (fun _ _ _ h => h) (by rfl) ?_ (by assumption) ?_;rotate_left;next => ((intro X hX;(try dsimp only at hX);go_simp);try with_reducible rfl));try simp only [Act.put,List.getElem_toArray,List.getElem_cons_succ,List.getElem_cons_zero,List.setIfInBounds_toArray,List.set_cons_zero,List.set_cons_succ]); ((refine wG 3 (v:=?_) rfl rfl (by kernel_rfl) (fun _ _ _ h => h) (by rfl) ?_ (by assumption) ?_;rotate_left;next => ((intro X hX;(try dsimp only at hX);go_simp);try with_reducible rfl));try simp only [Act.put,List.getElem_toArray,List.getElem_cons_succ,List.getElem_cons_zero,List.setIfInBounds_toArray,List.set_cons_zero,List.set_cons_succ]); ((refine wG 4 (v:=?_) rfl rfl (by kernel_rfl) (fun _ _ _ h => h) (by rfl) ?_ (by assumption) ?_;rotate_left;next => ((intro X hX;(try dsimp only at hX);go_simp);try with_reducible rfl));try simp only [Act.put,List.getElem_toArray,List.getElem_cons_succ,List.getElem_cons_zero,List.setIfInBounds_toArray,List.set_cons_zero,List.set_cons_succ]); ((refine wG 5 (v:=?_) rfl rfl (by kernel_rfl) (fun _ _ _ h => h) (by rfl) ?_ (by assumption) ?_;rotate_left;next => ((intro X hX;(try dsimp only at hX);go_simp);try with_reducible rfl));try simp only [Act.put,List.getElem_toArray,List.getElem_cons_succ,List.getElem_cons_zero,List.setIfInBounds_toArray,List.set_cons_zero,List.set_cons_succ]); ((refine wG 6 (v:=?_) rfl rfl (by kernel_rfl) (fun _ _ _ h => h) (by rfl) ?_ (by assumption) ?_;rotate_left;next => ((intro X hX;(try dsimp only at hX);go_simp);try with_reducible rfl));try simp only [Act.put,List.getElem_toArray,List.getElem_cons_succ,List.getElem_cons_zero,List.setIfInBounds_toArray,List.set_cons_zero,List.set_cons_succ]))
       (refine wpG_one (i := 7) (by kernel_rfl) rfl (fun K hK => ?_))
       go_simp
       refine hK.out _ _ (fun _ => ⟨cell_below (by repeat first|with_reducible (first|exact Below.refl _ _|exact Below.refl _ _|refine below_al ?_ _|refine below_dr ?_ _|refine below_d1 ?_)|(with_reducible refine Below.setCell ?_ ?_ _;rotate_left;next => first|(simp;done)|(simp;omega)|omega)) q6, cell_below (by repeat first|with_reducible (first|exact Below.refl _ _|exact Below.refl _ _|refine below_al ?_ _|refine below_dr ?_ _|refine below_d1 ?_)|(with_reducible refine Below.setCell ?_ ?_ _;rotate_left;next => first|(simp;done)|(simp;omega)|omega)) qy⟩) ?_
       clear hK K hH
       (try simp only [Act.put, List.setIfInBounds_toArray, List.set_cons_zero, List.set_cons_succ])
       (refine wpG_one (i := 8) (by kernel_rfl) rfl (fun K hK => ?_))
       have hmA := Asd.mk (hm1.out.later (show Below Q1.heap.size Q1 ((Q1.drew).alloc (.cells #[.string tx] 9)) from by repeat first|with_reducible (first|exact Below.refl _ _|exact Below.refl _ _|refine below_al ?_ _|refine below_dr ?_ _|refine below_d1 ?_)|(with_reducible refine Below.setCell ?_ ?_ _;rotate_left;next => first|(simp;done)|(simp;omega)|omega)))
       refine step_appG (by rfl) (by rfl) Tryz.underlying25 info_str rfl (by rfl) (hyv ▸ hmA.out.run.2) (by rfl) (heap_alloc_new _ _) (by simp [maxLen]; omega) (by omega) ?_
       intro v7 w7 F2 ho7 hF7 hn7 hm7
       obtain ⟨A7, c7, rfl, _, _⟩ := own_slice ho7
       rw [show (y.r.Texts ++ [tx]).length = y.r.Texts.length + 1 from by simp] at ho7 ⊢
       have hxG : x.b ∉ y.G := hm1.out.away
       have p6 : w7.cell? ⟨x.b, 6, none⟩ = some (.slice At y.r.Texts.length ct) := (hm7.cell (by simp; omega) hxG).trans (cell_below (show Below Q1.heap.size Q1 _ from by repeat first|with_reducible (first|exact Below.refl _ _|exact Below.refl _ _|refine below_al ?_ _|refine below_dr ?_ _|refine below_d1 ?_)|(with_reducible refine Below.setCell ?_ ?_ _;rotate_left;next => first|(simp;done)|(simp;omega)|omega)) q6)
       have py : w7.cell? ⟨yb, 1, none⟩ = some (.string tx) := (hm7.cell (by simp; omega) zyG).trans (cell_below (show Below Q1.heap.size Q1 _ from by repeat first|with_reducible (first|exact Below.refl _ _|exact Below.refl _ _|refine below_al ?_ _|refine below_dr ?_ _|refine below_d1 ?_)|(with_reducible refine Below.setCell ?_ ?_ _;rotate_left;next => first|(simp;done)|(simp;omega)|omega)) qy)
       have pf : w7.frozen? ⟨x.b, 6, none⟩ = false := (hm7.frozen (by simp; omega) hxG).trans (((show Below Q1.heap.size Q1 ((Q1.drew).alloc (.cells #[.string tx] 9)) from by repeat first|with_reducible (first|exact Below.refl _ _|exact Below.refl _ _|refine below_al ?_ _|refine below_dr ?_ _|refine below_d1 ?_)|(with_reducible refine Below.setCell ?_ ?_ _;rotate_left;next => first|(simp;done)|(simp;omega)|omega)).frozen (p := ⟨x.b, 6, none⟩) zx1).trans (fq 6))
       have hz7 : Q1.heap.size ≤ w7.heap.size := by have := hm7.size; simp at this; omega
       have hoA := Asd.mk ho7
       have hFA := Asd.mk hF7
       have hmA7 := Asd.mk hm7
       clear ho7 hF7 hm7 fq
       refine hK.out _ _ (fun _ => ⟨p6, py⟩) ?_
       clear hK K
       (try simp only [Act.put, List.setIfInBounds_toArray, List.set_cons_zero, List.set_cons_succ])
       have hH : w7.cell? ⟨x.b, 6, none⟩ = some (.slice At y.r.Texts.length ct) ∧ w7.cell? ⟨yb, 1, none⟩ = some (.string tx) := ⟨p6, py⟩
       (refine wpG_one (i := 9) (by kernel_rfl) rfl (fun K hK => ?_))
       go_simp
       refine hK.out _ _ (fun _ => hH) ?_
       clear hK K
       (try simp only [Act.put, List.setIfInBounds_toArray, List.set_cons_zero, List.set_cons_succ])
       (((refine wG 10 (v:=?_) rfl rfl (by kernel_rfl) (fun _ _ _ h => h) (by rfl) ?_ (by assumption) ?_;rotate_left;next => ((intro X hX;(try dsimp only at hX);go_simp);try with_reducible rfl));try simp only [Act.put,List.getElem_toArray,List.getElem_cons_succ,List.getElem_cons_zero,List.setIfInBounds_toArray,List.set_cons_zero,List.set_cons_succ]))
       (refine wpG_one (i := 11) (by kernel_rfl) rfl (fun K hK => ?_))
       go_simp
       refine hK.out _ _ (fun h => absurd rfl h) ?_
       clear hK K hH
       refine wpG_done (by kernel_rfl) ?_ _
       go_wp2
       go_roundw
       case rel =>
        refine ⟨k + 1, _, by omega, by go_num, hmA.out.txt hoA.out (hn7 hm1.out.nod) (fun j hj => ?_) hmA7.out, ?_⟩
        ·rcases hFA.out j hj with h | h
         ·exact .inl h
         ·exact .inr (Nat.le_of_eq h.symm)
        ·simp only [hyr2.out, e1.out, List.append_assoc]
       case measure => simp [intOf]; omega
     ·obtain rfl : k = xs.length := by omega
      rw [gdTo_end] at hyr
      have gAr := Asd.mk ((hmk.fr.block ab zaP zae).trans gP.out)
      have g2r : wr.cell? ⟨gb, 2, none⟩ = some (.int .i64 g.At) := (hmk.fr.cell zgP zge).trans g2
      have t4 : wr.cell? ⟨x.b, 4, none⟩ = some (.int .i64 y.r.At) := cellOf hmk.cells (i := 4) rfl
      have f4 := frozenOf hmk.cells 4
      have zx : x.b < wr.heap.size := lt_of_heap hmk.cells
      have hmk2 := Asd.mk hmk
      have hyr2 := Asd.mk hyr
      clear hmk hyr g2
      go_wp2
      go_meet
      refine ⟨.inr (by rw [hg1.out]; exact hO), ⟨_, (hmP.out.join hmk2.out).set (i := 4) (u := .int .i64 g.At) (r' := { y.r with At := g.At }) rfl rfl rfl, ?_⟩, ?_⟩
      ·unfold midRun; rw [if_neg hz, hg1.out]; simp only [hyr2.out]
      ·exact (Below.heap_setCell _ _ _ _ (by simp; omega)).trans gAr.out
 case rest =>
  obtain ⟨hon, ⟨y, hmy, hyr⟩, hact⟩ := hcut
  have hK := midK hw hI.out.ok hRk hrd hv.out (by rw [hat.out, hxs]; exact hon)
  have hnx : nextOf W R x.r = arrive a (midRun a x.r xs) := by unfold nextOf; rw [hat.out, hxs]; exact nextRun_mid hv.out hon
  rw [hat.out, hxs, ← hyr] at hK
  rw [← hyr] at hnx
  obtain ⟨n, hK⟩ := hK
  have hnl := hK.lt
  have hst1 := hK.step
  rw [hat.out] at hnl
  have hst : Asd (stepIn a y.r.At = a.Steps[n]) := Asd.mk (by have h2 := hat.out; subst h2; exact hst1)
  replace hnx := Asd.mk hnx
  obtain ⟨V0, eV⟩ : ∃ V0, V0 = wc := ⟨_, rfl⟩
  rw [← eV] at hmy hact ⊢
  clear eV wc hmZ gB t5 hbZ zxZ zaZ hyr
  have hm1 := Asd.mk hmy
  have gB1 := Asd.mk hact
  have hvis := hK.vis
  have hV19 := hK.vis1
  have t5 : V0.cell? ⟨x.b, 5, none⟩ = some (.int .i64 x.r.Visits) := by rw [← hvis]; exact cellOf hm1.out.cells (i := 5) rfl
  have f5 := frozenOf hm1.out.cells 5
  have hatn := Asd.mk hK.at_
  have htz := Asd.mk hK.texts
  have hmany := hK.many
  have hvs := Asd.mk hK.vis
  have hgiv : (a.Steps[n]).Give.size ≤ 9223372036854775807 := by
   have h1 := act_ok hw hRk.web
   rw [hat.out] at h1
   have hs1 := step_ok h1 (List.getElem_mem hnl)
   cases hE : (a.Steps[n]).End with
   | true => have := (end_ok hs1 hE).2.2; omega
   | false =>
    have h2 := (preOk_iff (mid_ok hs1 hE).1).2.1
    rw [ByteArray.toList_eq] at h2
    have h3 : (a.Steps[n]).Give.data.toList.length = 0 := by rw [h2]; rfl
    show (a.Steps[n]).Give.data.size ≤ _
    rw [← Array.length_toList, h3]
    exact Nat.zero_le _
  clear hmy hact hst1 hvis hK
  go_upto_region 18 with (fail)
  obtain ⟨Z2, eZ⟩ : ∃ Z2 : World, Z2 = V0.setCell ⟨x.b, 5, none⟩ (.int .i64 (x.r.Visits + 1)) := ⟨_, rfl⟩
  rw [← eZ]
  obtain ⟨y2, hy2⟩ : ∃ y2 : Ent, y2 = ⟨{ y.r with Visits := x.r.Visits + 1 }, y.b, y.v, y.G⟩ := ⟨_, rfl⟩
  have hm2 := Asd.mk (show Md w x Z2 y2 from hy2 ▸ eZ ▸ hm1.out.set (i := 5) (u := .int .i64 (x.r.Visits + 1)) (r' := { y.r with Visits := x.r.Visits + 1 }) rfl rfl rfl)
  have gB2 := Asd.mk (show Z2.heap[ab]? = _ from eZ ▸ (Below.heap_setCell _ _ _ _ (by simp; omega)).trans gB1.out)
  have hyv : y2.v = y.v := by rw [hy2]
  have hyr : y2.r = { y.r with Visits := x.r.Visits + 1 } := by rw [hy2]
  clear eZ t5 f5 gB1 hm1 hy2
  have t4 : Z2.cell? ⟨x.b, 4, none⟩ = some (.int .i64 (n : Int)) := by
   rw [← hatn.out]
   have h := cellOf hm2.out.cells (i := 4) rfl
   rw [hyr] at h
   exact h
  have b1 := cellOf gB2.out (i := 1) rfl
  obtain ⟨ad, c', v0, v2, hv2, k0, k1, k2, k3, k4, k5, k6, k7, hk0, hk2, _⟩ := Step.elem hst0.out hnl
  cases hv2
  have hbW := Asd.mk (hX.out.webs hx.out hm2.out)
  replace k0 := cell_below hbW.out k0
  replace k1 := cell_below hbW.out k1
  replace k2 := cell_below hbW.out k2
  replace k3 := cell_below hbW.out k3
  replace k4 := cell_below hbW.out k4
  replace k5 := cell_below hbW.out k5
  replace k6 := cell_below hbW.out k6
  replace k7 := cell_below hbW.out k7
  have zad := World.block_lt_of_cell? _ _ k0
  have zad2 := World.block_lt_of_cell? _ _ k1
  have zx : x.b < Z2.heap.size := lt_of_heap hm2.out.cells
  have za : ab < Z2.heap.size := lt_of_heap gB2.out
  obtain ⟨A2, d2, rfl, _, _⟩ := rep_len hk2
  clear hk2
  obtain ⟨s, hs⟩ : ∃ s, a.Steps[n] = s := ⟨_, rfl⟩
  rw [hs] at k1 k3 k4 k5 k6 k7 hk0 hst hgiv
  obtain ⟨A0, d0, rfl, _, _⟩ := rep_len hk0
  replace hk0 := Asd.mk hk0
  obtain ⟨Bt, dt, hxv, _, _⟩ := own_slice hm2.out.run.2
  have t6 : Z2.cell? ⟨x.b, 6, none⟩ = some (.slice Bt y2.r.Texts.length dt) := by rw [← hxv]; exact cellOf hm2.out.cells (i := 6) rfl
  have htx := Asd.mk (show rep Z2 (strsT 9 y2.r.Texts) (.slice Bt y2.r.Texts.length dt) from hxv ▸ hm2.out.run.2.rep)
  have hyt : y2.r.Texts = y.r.Texts := by rw [hyr]
  rw [hyt] at t6 htx
  replace hyv := Asd.mk hyv
  replace hyr := Asd.mk hyr
  replace hyt := Asd.mk hyt
  replace hxv := Asd.mk hxv
  have hdo : Asd (∀ p : Run, (arrive a y.r).1 = p → doRun W R x.r = wants W (setR p R) s.Asks) := Asd.mk (fun p hp => by
   unfold doRun; rw [hnx.out, hp]; unfold arrive; rw [hst.out])
  cases hE : s.End with
  | true =>
   rw [hE] at k5
   have hAs : s.Asks = [] := by
    have h1 := act_ok hw hRk.web
    rw [hat.out] at h1
    exact (end_ok (step_ok h1 (hs ▸ List.getElem_mem hnl)) hE).1
   replace hAs := Asd.mk hAs
   go_wp2
   go_region
   go_upto_region 20 with (fail)
   have hgx : ∀ b ∈ entF x, 3 < b := fun b hb => Nat.lt_of_lt_of_le hgl (hX.out.above b (hfoot.out b hb))
   have hg2 : Z2.cell? ⟨3, 15, none⟩ = some (.int .u8 4) := (hm2.out.fr.cell (World.block_lt_of_cell? _ _ hgt) (fun hb => Nat.lt_irrefl _ (hgx _ hb))).trans hgt
   have hgz := World.block_lt_of_cell? _ _ hg2
   obtain ⟨sb, hsb⟩ : ∃ sb, sb = Z2.heap.size := ⟨_, rfl⟩
   obtain ⟨Z3, eZ⟩ : ∃ Z3 : World, Z3 = (Z2.alloc (.cells #[.slice A0 s.Asks.length d0, .int .i64 s.On, .slice A2 s.Cases.length d2, .int .i64 s.Else, .int .i64 s.Fall, .bool true, .bool s.Bad, .string s.Give] 121)).drew := ⟨_, rfl⟩
   rw [← eZ, ← hsb]
   have hm3 := Asd.mk (show Md w x Z3 y2 from eZ ▸ hm2.out.later (by repeat first|with_reducible (first|exact Below.refl _ _|exact Below.refl _ _|refine below_al ?_ _|refine below_dr ?_ _|refine below_d1 ?_)|(with_reducible refine Below.setCell ?_ ?_ _;rotate_left;next => first|(simp;done)|(simp;omega)|omega)))
   have u6 : Z3.cell? ⟨sb, 6, none⟩ = some (.bool s.Bad) := by rw [eZ, hsb]; go_simp
   have u7 : Z3.cell? ⟨sb, 7, none⟩ = some (.string s.Give) := by rw [eZ, hsb]; go_simp
   have hb3 : Below Z2.heap.size Z2 Z3 := eZ ▸ by repeat first|with_reducible (first|exact Below.refl _ _|exact Below.refl _ _|refine below_al ?_ _|refine below_dr ?_ _|refine below_d1 ?_)|(with_reducible refine Below.setCell ?_ ?_ _;rotate_left;next => first|(simp;done)|(simp;omega)|omega)
   have t63 := cell_below hb3 t6
   have hg3 := cell_below hb3 hg2
   have htx3 := Asd.mk (htx.out.below hb3)
   have zsb : sb < Z3.heap.size := World.block_lt_of_cell? _ _ u6
   have zx3 : x.b < Z3.heap.size := lt_of_heap hm3.out.cells
   have hne : x.b ≠ sb := by omega
   have hgz3 := World.block_lt_of_cell? _ _ hg3
   clear eZ hsb hb3 hm2 gB2 b1 t4 t6 k0 k1 k2 k3 k4 k5 k6 k7 zad zad2 za htx
   refine wp_region_G (last := 20) (S := fun Z => Z.cell? ⟨sb, 6, none⟩ = some (.bool s.Bad) ∧ Z.cell? ⟨sb, 7, none⟩ = some (.string s.Give) ∧ Z.cell? ⟨x.b, 6, none⟩ = some (.slice Bt y.r.Texts.length dt)) (by kernel_rfl) ?_
   have hH : Z3.drew.cell? ⟨sb, 6, none⟩ = some (.bool s.Bad) ∧ Z3.drew.cell? ⟨sb, 7, none⟩ = some (.string s.Give) ∧ Z3.drew.cell? ⟨x.b, 6, none⟩ = some (.slice Bt y.r.Texts.length dt) := ⟨u6, u7, t63⟩
   (((refine wG 0 (v:=?_) rfl rfl (by kernel_rfl) (fun _ _ _ h => h) (by rfl) ?_ (by assumption) ?_;rotate_left;next => ((intro X hX;(try dsimp only at hX);go_simp);try with_reducible rfl));try simp only [Act.put,List.getElem_toArray,List.getElem_cons_succ,List.getElem_cons_zero,List.setIfInBounds_toArray,List.set_cons_zero,List.set_cons_succ]); ((refine wG 1 (v:=?_) rfl rfl (by kernel_rfl) (fun _ _ _ h => h) (by rfl) ?_ (by assumption) ?_;rotate_left;next => ((intro X hX;(try dsimp only at hX);go_simp);try with_reducible rfl));try simp only [Act.put,List.getElem_toArray,List.getElem_cons_succ,List.getElem_cons_zero,List.setIfInBounds_toArray,List.set_cons_zero,List.set_cons_succ]); ((refine wG 2 (v:=?_) rfl rfl (by kernel_rfl) (fun _ _ _ h => h) (by rfl) ?_ (by assumption) ?_;rotate_left;next => ((intro X hX;(try dsimp only at hX);go_simp);try with_reducible rfl));try simp only [Act.put,List.getElem_toArray,List.getElem_cons_succ,List.getElem_cons_zero,List.setIfInBounds_toArray,List.set_cons_zero,List.set_cons_succ]); ((refine wG 3 (v:=?_) rfl rfl (by kernel_rfl) (fun _ _ _ h => h) (by rfl) ?_ (by assumption) ?_;rotate_left;next => ((intro X hX;(try dsimp only at hX);go_simp);try with_reducible rfl));try simp only [Act.put,List.getElem_toArray,List.getElem_cons_succ,List.getElem_cons_zero,List.setIfInBounds_toArray,List.set_cons_zero,List.set_cons_succ]); ((refine wG 4 (v:=?_) rfl rfl (by kernel_rfl) (fun _ _ _ h => h) (by rfl) ?_ (by assumption) ?_;rotate_left;next => ((intro X hX;(try dsimp only at hX);go_simp);try with_reducible rfl));try simp only [Act.put,List.getElem_toArray,List.getElem_cons_succ,List.getElem_cons_zero,List.setIfInBounds_toArray,List.set_cons_zero,List.set_cons_succ]); ((refine wG 5 (v:=?_) rfl rfl (by kernel_rfl) (fun _ _ _ h => h) (by rfl) ?_ (by assumption) ?_;rotate_left;next => ((intro X hX;(try dsimp only at hX);go_simp);try with_reducible rfl));try simp only [Act.put,List.getElem_toArray,List.getElem_cons_succ,List.getElem_cons_zero,List.setIfInBounds_toArray,List.set_cons_zero,List.set_cons_succ]); ((refine wG 6 (v:=?_) rfl rfl (by kernel_rfl) (fun _ _ _ h => h) (by rfl) ?_ (by assumption) ?_;rotate_left;next => ((intro X hX;(try dsimp only at hX);go_simp);try with_reducible rfl));try simp only [Act.put,List.getElem_toArray,List.getElem_cons_succ,List.getElem_cons_zero,List.setIfInBounds_toArray,List.set_cons_zero,List.set_cons_succ]); ((refine wG 7 (v:=?_) rfl rfl (by kernel_rfl) (fun _ _ _ h => h) (by rfl) ?_ (by assumption) ?_;rotate_left;next => ((intro X hX;(try dsimp only at hX);go_simp);try with_reducible rfl));try simp only [Act.put,List.getElem_toArray,List.getElem_cons_succ,List.getElem_cons_zero,List.setIfInBounds_toArray,List.set_cons_zero,List.set_cons_succ]); ((refine wG 8 (v:=?_) rfl rfl (by kernel_rfl) (fun _ _ _ h => h) (by rfl) ?_ (by assumption) ?_;rotate_left;next => ((intro X hX;(try dsimp only at hX);go_simp);try with_reducible rfl));try simp only [Act.put,List.getElem_toArray,List.getElem_cons_succ,List.getElem_cons_zero,List.setIfInBounds_toArray,List.set_cons_zero,List.set_cons_succ]); ((refine wG 9 (v:=?_) rfl rfl (by kernel_rfl) (fun _ _ _ h => h) (by rfl) ?_ (by assumption) ?_;rotate_left;next => ((intro X hX;(try dsimp only at hX);go_simp);try with_reducible rfl));try simp only [Act.put,List.getElem_toArray,List.getElem_cons_succ,List.getElem_cons_zero,List.setIfInBounds_toArray,List.set_cons_zero,List.set_cons_succ]); ((refine wG 10 (v:=?_) rfl rfl (by kernel_rfl) (fun _ _ _ h => h) (by rfl) ?_ (by assumption) ?_;rotate_left;next => ((intro X hX;(try dsimp only at hX);go_simp);try with_reducible rfl));try simp only [Act.put,List.getElem_toArray,List.getElem_cons_succ,List.getElem_cons_zero,List.setIfInBounds_toArray,List.set_cons_zero,List.set_cons_succ]))
   (refine wpG_one (i := 11) (by kernel_rfl) rfl (fun K hK => ?_))
   go_simp
   refine (Finish_calls s.Give y.r.Texts _ Z3.drew (htx3.out.below (by repeat first|with_reducible (first|exact Below.refl _ _|exact Below.refl _ _|refine below_al ?_ _|refine below_dr ?_ _|refine below_d1 ?_)|(with_reducible refine Below.setCell ?_ ?_ _;rotate_left;next => first|(simp;done)|(simp;omega)|omega))) hgiv (fun t ht => by have := htz.out t ht; omega) hgz3 (by go_simp)).mono ?_
   rintro e' w5 ⟨rfl, hb5⟩
   have hb6 : Below Z3.heap.size Z3 w5 := below_st (by repeat first|with_reducible (first|exact Below.refl _ _|exact Below.refl _ _|refine below_al ?_ _|refine below_dr ?_ _|refine below_d1 ?_)|(with_reducible refine Below.setCell ?_ ?_ _;rotate_left;next => first|(simp;done)|(simp;omega)|omega)) hb5
   have hm5 := Asd.mk (hm3.out.later hb6)
   have v6 := cell_below hb6 u6
   have v7 := cell_below hb6 u7
   have v63 := cell_below hb6 t63
   have o1 : w5.cell? ⟨x.b, 1, none⟩ = some (.bool y2.r.Over) := cellOf hm5.out.cells (i := 1) rfl
   have o2 : w5.cell? ⟨x.b, 2, none⟩ = some (.bool y2.r.Fail) := cellOf hm5.out.cells (i := 2) rfl
   have o3 : w5.cell? ⟨x.b, 3, none⟩ = some (.string y2.r.Text) := cellOf hm5.out.cells (i := 3) rfl
   have p1 := frozenOf hm5.out.cells 1
   have p2 := frozenOf hm5.out.cells 2
   have p3 := frozenOf hm5.out.cells 3
   clear hb6 hb5 hm3 u6 u7 t63 hg3 htx3
   refine hK.out _ _ (fun _ => ⟨v6, v7, v63⟩) ?_
   clear hK K hH
   (try simp only [Act.put, List.setIfInBounds_toArray, List.set_cons_zero, List.set_cons_succ])
   have hH : w5.cell? ⟨sb, 6, none⟩ = some (.bool s.Bad) ∧ w5.cell? ⟨sb, 7, none⟩ = some (.string s.Give) ∧ w5.cell? ⟨x.b, 6, none⟩ = some (.slice Bt y.r.Texts.length dt) := ⟨v6, v7, v63⟩
   (((refine wG 12 (v:=?_) rfl rfl (by kernel_rfl) (fun _ _ _ h => h) (by rfl) ?_ (by assumption) ?_;rotate_left;next => ((intro X hX;(try dsimp only at hX);go_simp);try with_reducible rfl));try simp only [Act.put,List.getElem_toArray,List.getElem_cons_succ,List.getElem_cons_zero,List.setIfInBounds_toArray,List.set_cons_zero,List.set_cons_succ]); ((refine wG 13 (v:=?_) rfl rfl (by kernel_rfl) (fun _ _ _ h => h) (by rfl) ?_ (by assumption) ?_;rotate_left;next => ((intro X hX;(try dsimp only at hX);go_simp);try with_reducible rfl));try simp only [Act.put,List.getElem_toArray,List.getElem_cons_succ,List.getElem_cons_zero,List.setIfInBounds_toArray,List.set_cons_zero,List.set_cons_succ]))
   (refine wpG_one (i := 14) (by kernel_rfl) rfl (fun K hK => ?_))
   go_simp
   refine hK.out _ _ (fun _ => ⟨by go_simp, by go_simp, by go_simp⟩) ?_
   clear hK K hH
   (try simp only [Act.put, List.setIfInBounds_toArray, List.set_cons_zero, List.set_cons_succ])
   have hH : (w5.setCell ⟨x.b, 1, none⟩ (.bool true)).cell? ⟨sb, 6, none⟩ = some (.bool s.Bad) ∧ (w5.setCell ⟨x.b, 1, none⟩ (.bool true)).cell? ⟨sb, 7, none⟩ = some (.string s.Give) ∧ (w5.setCell ⟨x.b, 1, none⟩ (.bool true)).cell? ⟨x.b, 6, none⟩ = some (.slice Bt y.r.Texts.length dt) := ⟨by go_simp, by go_simp, by go_simp⟩
   (((refine wG 15 (v:=?_) rfl rfl (by kernel_rfl) (fun _ _ _ h => h) (by rfl) ?_ (by assumption) ?_;rotate_left;next => ((intro X hX;(try dsimp only at hX);go_simp);try with_reducible rfl));try simp only [Act.put,List.getElem_toArray,List.getElem_cons_succ,List.getElem_cons_zero,List.setIfInBounds_toArray,List.set_cons_zero,List.set_cons_succ]); ((refine wG 16 (v:=?_) rfl rfl (by kernel_rfl) (fun _ _ _ h => h) (by rfl) ?_ (by assumption) ?_;rotate_left;next => ((intro X hX;(try dsimp only at hX);go_simp);try with_reducible rfl));try simp only [Act.put,List.getElem_toArray,List.getElem_cons_succ,List.getElem_cons_zero,List.setIfInBounds_toArray,List.set_cons_zero,List.set_cons_succ]))
   (refine wpG_one (i := 17) (by kernel_rfl) rfl (fun K hK => ?_))
   go_simp
   refine hK.out _ _ (fun _ => ⟨by go_simp, by go_simp, by go_simp⟩) ?_
   clear hK K hH
   (try simp only [Act.put, List.setIfInBounds_toArray, List.set_cons_zero, List.set_cons_succ])
   have hH : ((w5.setCell ⟨x.b, 1, none⟩ (.bool true)).setCell ⟨x.b, 2, none⟩ (.bool s.Bad)).cell? ⟨sb, 6, none⟩ = some (.bool s.Bad) ∧ ((w5.setCell ⟨x.b, 1, none⟩ (.bool true)).setCell ⟨x.b, 2, none⟩ (.bool s.Bad)).cell? ⟨sb, 7, none⟩ = some (.string s.Give) ∧ ((w5.setCell ⟨x.b, 1, none⟩ (.bool true)).setCell ⟨x.b, 2, none⟩ (.bool s.Bad)).cell? ⟨x.b, 6, none⟩ = some (.slice Bt y.r.Texts.length dt) := ⟨by go_simp, by go_simp, by go_simp⟩
   (refine wpG_one (i := 18) (by kernel_rfl) rfl (fun K hK => ?_))
   go_simp
   refine hK.out _ _ (fun _ => ⟨by go_simp, by go_simp, by go_simp⟩) ?_
   clear hK K
   (try simp only [Act.put, List.setIfInBounds_toArray, List.set_cons_zero, List.set_cons_succ])
   (((refine wG 19 (v:=?_) rfl rfl (by kernel_rfl) (fun _ _ _ h => h) (by rfl) ?_ (by assumption) ?_;rotate_left;next => ((intro X hX;(try dsimp only at hX);go_simp);try with_reducible rfl));try simp only [Act.put,List.getElem_toArray,List.getElem_cons_succ,List.getElem_cons_zero,List.setIfInBounds_toArray,List.set_cons_zero,List.set_cons_succ]))
   (refine wpG_one (i := 20) (by kernel_rfl) rfl (fun K hK => ?_))
   go_simp
   refine hK.out _ _ (fun h => absurd rfl h) ?_
   clear hK K hH
   refine wpG_done (by kernel_rfl) ?_ _
   go_wp2
   go_end0
   have s1 := hm5.out.set (i := 1) (u := .bool true) (r' := { y2.r with Over := true }) rfl rfl rfl
   have s2 := s1.set (i := 2) (u := .bool s.Bad) (r' := { y2.r with Over := true, Fail := s.Bad }) rfl rfl rfl
   have s3 := s2.set (i := 3) (u := .string (finish s.Give y.r.Texts)) (r' := { y2.r with Over := true, Fail := s.Bad, Text := finish s.Give y.r.Texts }) rfl rfl rfl
   refine ⟨rfl, ?_⟩
   rw [hdo.out { y2.r with Over := true, Fail := s.Bad, Text := finish s.Give y.r.Texts } (by unfold arrive; rw [hst.out, hE, hyr.out, hvs.out]; rfl), hAs.out]
   exact hX.out.done hx.out s3
  | false =>
   rw [hE] at k5
   go_wp2
   go_region
   go_upto_region 21 with (fail)
   obtain ⟨sb, hsb⟩ : ∃ sb, sb = Z2.heap.size := ⟨_, rfl⟩
   obtain ⟨Z3, eZ⟩ : ∃ Z3 : World, Z3 = (Z2.alloc (.cells #[.slice A0 s.Asks.length d0, .int .i64 s.On, .slice A2 s.Cases.length d2, .int .i64 s.Else, .int .i64 s.Fall, .bool false, .bool s.Bad, .string s.Give] 121)).drew := ⟨_, rfl⟩
   rw [← eZ, ← hsb]
   have hm3 := Asd.mk (show Md w x Z3 y2 from eZ ▸ hm2.out.later (by repeat first|with_reducible (first|exact Below.refl _ _|exact Below.refl _ _|refine below_al ?_ _|refine below_dr ?_ _|refine below_d1 ?_)|(with_reducible refine Below.setCell ?_ ?_ _;rotate_left;next => first|(simp;done)|(simp;omega)|omega)))
   have u0 : Z3.cell? ⟨sb, 0, none⟩ = some (.slice A0 s.Asks.length d0) := by rw [eZ, hsb]; go_simp
   clear eZ hsb hm2 gB2 b1 t4 t6 k0 k1 k2 k3 k4 k5 k6 k7 zad zad2 za htx zx
   have hdone := Asd.mk (hX.out.done hx.out hm3.out)
   obtain ⟨R1, hR1⟩ : ∃ R1, setR y2.r R = R1 := ⟨_, rfl⟩
   rw [hR1] at hdone
   have hd2 : Asd (doRun W R x.r = wants W R1 s.Asks) := Asd.mk (by
    rw [hdo.out y2.r (by unfold arrive; rw [hst.out, hE, hyr.out, hvs.out]; rfl), hR1])
   obtain ⟨F1, hE1, hf1, hs1⟩ := hdone.out
   have hE1 := Asd.mk hE1
   have hf1 := Asd.mk hf1
   have hs1 := Asd.mk hs1
   clear hdone
   go_wp2
   go_loopw [146] (fun i wr => ∃ k : Nat, k ≤ s.Asks.length ∧ i = .int .i64 k ∧ EngP lo W roots (wtTo W R1 s.Asks k) e F w wr) (fun i _ => s.Asks.length - (intOf i).toNat)
   case atStart => exact ⟨0, by omega, rfl, by rw [wtTo_zero]; exact ⟨F1, hE1.out, hf1.out, hs1.out⟩⟩
   case round =>
    obtain ⟨k, hk, rfl, F2, hE2, hf2, hs2⟩ := hrel
    by_cases hlt2 : k < s.Asks.length
    ·obtain ⟨adx, c', he, hcell⟩ := str_elem (hk0.out.below (hf2.below0 hX.out.above hX.out.low hX.out.below)) hlt2
     cases he
     have e1 := Asd.mk (wtTo_succ (W := W) (R := R1) hlt2)
     replace hE2 := Asd.mk hE2
     replace hf2 := Asd.mk hf2
     replace hs2 := Asd.mk hs2
     go_wp2_with fail
     refine (want_calls W roots (wtTo W R1 s.Asks k) e F2 s.Asks[k] _ hE2.out ha.out hn).mono ?_
     rintro e' w9 ⟨rfl, hP⟩
     have hP9 := Asd.mk (EngP.trans hf2.out hs2.out hP)
     clear hP
     go_wp2
     go_roundw
     case rel => exact ⟨k + 1, by omega, by go_num, by rw [e1.out]; exact hP9.out⟩
     case measure => simp [intOf]; omega
    ·obtain rfl : k = s.Asks.length := by omega
     rw [wtTo_end] at hE2
     have hq2 := Asd.mk (show EngP lo W roots (wants W R1 s.Asks) e F w wr from ⟨F2, hE2, hf2, hs2⟩)
     clear hE2 hf2 hs2
     go_wp2
     go_end0
     refine ⟨rfl, ?_⟩
     rw [hd2.out]
     exact hq2.out
/-- a unit of work of a run that is ready -/
theorem do_calls {lo : Nat} {W : Web} {roots : List ByteArray} {R : List Run} {e : Nat} {F : List Nat} (q : ByteArray) (r : Run) (w : World) (hE : Eng lo w W roots R e F) (hq : runOf R q = some r) (hw : checkWeb W = 0) (hI : Inv W R) (hrd : isReady W R r = true) (hgl : 3 < lo) (hgt : w.cell? ⟨3, 15, none⟩ = some (.int .u8 4)) :
  Calls Tryz.prog 85 #[.pointer (some ⟨e, 0, none⟩), .string q] w (DoP lo W roots (doRun W R r) e F w) := by
 obtain ⟨m, nv, rv, L, Fr, W0, tN, tS, tC, hX⟩ := hE
 by_cases hv : r.Visits = 20
 ·have h := do_spent q r w hX hq hv
  rw [show doRun W R r = setR { r with Over := true, Fail := true, Text := spentT } R from by unfold doRun nextOf; rw [nextRun_spent hv]; rfl]
  exact h
 ·exact do_go q r w hX hq hw hI hrd hv hgl hgt
end Go.Proofs.YtkpkfihaihoaeaaGreatDoor.M
end
section
set_option linter.unusedVariables false
set_option linter.unusedSimpArgs false
namespace Go.Proofs.YtkpkfihaihoaeaaGreatDoor.M
open Go.RowKit
theorem eqB_int2 (a b : Int) : (a == b) = eqB a b := by unfold eqB; by_cases h : a = b <;> simp [h]

set_option maxHeartbeats 1000000 in
theorem EqualStr_calls {t t' : Nat} (xs ys : List ByteArray) (v u : Value) (w : World) (h : rep w (strsT t xs) v) (h' : rep w (strsT t' ys) u) :
  Calls Tryz.prog 177 #[v, u] w fun e w' => e = .returned (.bool (eqB xs ys)) ∧ Below w.heap.size w w' := by
 obtain ⟨A, c, rfl, hc, hn⟩ := rep_len h
 obtain ⟨A', c', rfl, hc', hn'⟩ := rep_len h'
 replace h := Asd.mk h
 replace h' := Asd.mk h'
 by_cases hl : xs.length = ys.length
 rotate_left
 ·have e1 := Hid.mk' (eqB_no (fun e => hl (congrArg List.length e)) : eqB xs ys = false)
  have hb : ((xs.length : Int) != (ys.length : Int)) = true := by simp; omega
  replace hl := Hid.mk' hl
  go_enter Tryz.func177, Tryz.ntmps177
  go_wp2
  go_ret
  exact ⟨by rw [e1.out]; rfl, Below.refl _ _⟩
 have hb : ((xs.length : Int) != (ys.length : Int)) = false := by simp; omega
 replace hl := Hid.mk' hl
 go_enter Tryz.func177, Tryz.ntmps177
 go_wp2
 go_loopw [13] (fun i wr => ∃ k : Nat, k ≤ xs.length ∧ i = .int .i64 k ∧ eqTo xs ys k ∧ Below w.heap.size w wr) (fun i _ => xs.length - (intOf i).toNat)
 case atStart => exact ⟨0, by omega, rfl, eqTo_zero _ _, Below.refl _ _⟩
 case round =>
  obtain ⟨k, hk, rfl, hA, hbr⟩ := hrel
  by_cases hlt : k < xs.length
  ·have hlt' : k < ys.length := by have := hl.out; omega
   obtain ⟨a, d, he, hcell⟩ := str_elem (h.out.below hbr) hlt
   cases he
   obtain ⟨a, d, he, hcell'⟩ := str_elem (h'.out.below hbr) hlt'
   cases he
   have r1 := eqB_str xs[k] ys[k]
   have r2 := eqB_str2 xs[k] ys[k]
   cases hq : eqB xs[k] ys[k] with
   | true =>
    have e1 := eqTo_succ hA hlt hlt' (eqB_of hq)
    go_wp2
    go_quiet (fail)
    go_wp2
    go_roundw
    case rel => exact ⟨k + 1, by omega, by go_num, e1, below_dr hbr _⟩
    case measure => simp [intOf]; omega
   | false =>
    have e1 := Hid.mk' (eqB_no (ne_at hlt hlt' (eqB_ne hq)) : eqB xs ys = false)
    go_wp2
    go_quiet (fail)
    go_wp2
    go_ret
    exact ⟨by rw [e1.out]; rfl, below_dr hbr _⟩
  ·obtain rfl : k = xs.length := by omega
   have e1 := Hid.mk' (eqB_yes (eqTo_end hl.out hA))
   go_wp2
   go_ret
   exact ⟨by rw [e1.out]; rfl, hbr⟩
set_option maxRecDepth 100000 in
set_option maxHeartbeats 2000000 in
theorem sameRun_calls (x y : Run) (w : World) {vs us : List Value} (h : reps w (x.c) vs) (h' : reps w (y.c) us) :
  Calls Tryz.prog 179 #[.agg vs.toArray, .agg us.toArray] w fun e w' => e = .returned (.bool (eqB x y)) ∧ Below w.heap.size w w' := by
 obtain ⟨v6, rfl, h6⟩ := Run.ropen h
 obtain ⟨u6, rfl, g6⟩ := Run.ropen h'
 obtain ⟨A6, c6, rfl, _, _⟩ := rep_len h6
 replace h6 := Asd.mk h6
 obtain ⟨B6, b6, rfl, _, _⟩ := rep_len g6
 replace g6 := Asd.mk g6
 clear h h'
 have r_Name := eqB_str x.Name y.Name
 have s_Name := eqB_str2 x.Name y.Name
 have r_Over := eqB_bool x.Over y.Over
 have s_Over := eqB_bool2 x.Over y.Over
 have r_Fail := eqB_bool x.Fail y.Fail
 have s_Fail := eqB_bool2 x.Fail y.Fail
 have r_Text := eqB_str x.Text y.Text
 have s_Text := eqB_str2 x.Text y.Text
 have r_At := eqB_int x.At y.At
 have r_Visits := eqB_int x.Visits y.Visits
 have s_At := eqB_int2 x.At y.At
 have s_Visits := eqB_int2 x.Visits y.Visits
 rcases Bool.eq_false_or_eq_true (eqB x.Name y.Name) with q_Name | q_Name
 rotate_left
 ·have e1 := Hid.mk' (eqB_no (fun e => eqB_ne q_Name (congrArg Run.Name e)) : eqB x y = false)
  go_enter Tryz.func179, Tryz.ntmps179
  go_wp2_with (first | (go_at_call 177; refine (EqualStr_calls x.Texts y.Texts _ _ _ (h6.out.below (by first | exact ((Below.refl _ _).alloc (Nat.le_refl _) _).alloc (by simp) _ | exact HB.out)) (g6.out.below (by first | exact ((Below.refl _ _).alloc (Nat.le_refl _) _).alloc (by simp) _ | exact HB.out))).mono ?_; rintro e w1 ⟨rfl, hb1⟩; obtain ⟨hcx, hfx⟩ := bcell hb1; have hz1 : w.heap.size + 1 < w1.heap.size := (by have := hb1.size; (try simp at this); omega); have hz0 : w.heap.size < w1.heap.size := (by omega); have HB := Asd.mk (show Below w.heap.size w w1 from by first | exact below_st (((Below.refl _ _).alloc (Nat.le_refl _) _).alloc (by simp) _) hb1 | exact below_st HB.out hb1); clear hb1))
  go_ret
  exact ⟨by rw [e1.out]; rfl, by first | exact ((Below.refl _ _).alloc (Nat.le_refl _) _).alloc (by simp) _ | exact HB.out⟩
 rcases Bool.eq_false_or_eq_true (eqB x.Over y.Over) with q_Over | q_Over
 rotate_left
 ·have e1 := Hid.mk' (eqB_no (fun e => eqB_ne q_Over (congrArg Run.Over e)) : eqB x y = false)
  go_enter Tryz.func179, Tryz.ntmps179
  go_wp2_with (first | (go_at_call 177; refine (EqualStr_calls x.Texts y.Texts _ _ _ (h6.out.below (by first | exact ((Below.refl _ _).alloc (Nat.le_refl _) _).alloc (by simp) _ | exact HB.out)) (g6.out.below (by first | exact ((Below.refl _ _).alloc (Nat.le_refl _) _).alloc (by simp) _ | exact HB.out))).mono ?_; rintro e w1 ⟨rfl, hb1⟩; obtain ⟨hcx, hfx⟩ := bcell hb1; have hz1 : w.heap.size + 1 < w1.heap.size := (by have := hb1.size; (try simp at this); omega); have hz0 : w.heap.size < w1.heap.size := (by omega); have HB := Asd.mk (show Below w.heap.size w w1 from by first | exact below_st (((Below.refl _ _).alloc (Nat.le_refl _) _).alloc (by simp) _) hb1 | exact below_st HB.out hb1); clear hb1))
  go_ret
  exact ⟨by rw [e1.out]; rfl, by first | exact ((Below.refl _ _).alloc (Nat.le_refl _) _).alloc (by simp) _ | exact HB.out⟩
 rcases Bool.eq_false_or_eq_true (eqB x.Fail y.Fail) with q_Fail | q_Fail
 rotate_left
 ·have e1 := Hid.mk' (eqB_no (fun e => eqB_ne q_Fail (congrArg Run.Fail e)) : eqB x y = false)
  go_enter Tryz.func179, Tryz.ntmps179
  go_wp2_with (first | (go_at_call 177; refine (EqualStr_calls x.Texts y.Texts _ _ _ (h6.out.below (by first | exact ((Below.refl _ _).alloc (Nat.le_refl _) _).alloc (by simp) _ | exact HB.out)) (g6.out.below (by first | exact ((Below.refl _ _).alloc (Nat.le_refl _) _).alloc (by simp) _ | exact HB.out))).mono ?_; rintro e w1 ⟨rfl, hb1⟩; obtain ⟨hcx, hfx⟩ := bcell hb1; have hz1 : w.heap.size + 1 < w1.heap.size := (by have := hb1.size; (try simp at this); omega); have hz0 : w.heap.size < w1.heap.size := (by omega); have HB := Asd.mk (show Below w.heap.size w w1 from by first | exact below_st (((Below.refl _ _).alloc (Nat.le_refl _) _).alloc (by simp) _) hb1 | exact below_st HB.out hb1); clear hb1))
  go_ret
  exact ⟨by rw [e1.out]; rfl, by first | exact ((Below.refl _ _).alloc (Nat.le_refl _) _).alloc (by simp) _ | exact HB.out⟩
 rcases Bool.eq_false_or_eq_true (eqB x.Text y.Text) with q_Text | q_Text
 rotate_left
 ·have e1 := Hid.mk' (eqB_no (fun e => eqB_ne q_Text (congrArg Run.Text e)) : eqB x y = false)
  go_enter Tryz.func179, Tryz.ntmps179
  go_wp2_with (first | (go_at_call 177; refine (EqualStr_calls x.Texts y.Texts _ _ _ (h6.out.below (by first | exact ((Below.refl _ _).alloc (Nat.le_refl _) _).alloc (by simp) _ | exact HB.out)) (g6.out.below (by first | exact ((Below.refl _ _).alloc (Nat.le_refl _) _).alloc (by simp) _ | exact HB.out))).mono ?_; rintro e w1 ⟨rfl, hb1⟩; obtain ⟨hcx, hfx⟩ := bcell hb1; have hz1 : w.heap.size + 1 < w1.heap.size := (by have := hb1.size; (try simp at this); omega); have hz0 : w.heap.size < w1.heap.size := (by omega); have HB := Asd.mk (show Below w.heap.size w w1 from by first | exact below_st (((Below.refl _ _).alloc (Nat.le_refl _) _).alloc (by simp) _) hb1 | exact below_st HB.out hb1); clear hb1))
  go_ret
  exact ⟨by rw [e1.out]; rfl, by first | exact ((Below.refl _ _).alloc (Nat.le_refl _) _).alloc (by simp) _ | exact HB.out⟩
 rcases Bool.eq_false_or_eq_true (eqB x.At y.At) with q_At | q_At
 rotate_left
 ·have e1 := Hid.mk' (eqB_no (fun e => eqB_ne q_At (congrArg Run.At e)) : eqB x y = false)
  go_enter Tryz.func179, Tryz.ntmps179
  go_wp2_with (first | (go_at_call 177; refine (EqualStr_calls x.Texts y.Texts _ _ _ (h6.out.below (by first | exact ((Below.refl _ _).alloc (Nat.le_refl _) _).alloc (by simp) _ | exact HB.out)) (g6.out.below (by first | exact ((Below.refl _ _).alloc (Nat.le_refl _) _).alloc (by simp) _ | exact HB.out))).mono ?_; rintro e w1 ⟨rfl, hb1⟩; obtain ⟨hcx, hfx⟩ := bcell hb1; have hz1 : w.heap.size + 1 < w1.heap.size := (by have := hb1.size; (try simp at this); omega); have hz0 : w.heap.size < w1.heap.size := (by omega); have HB := Asd.mk (show Below w.heap.size w w1 from by first | exact below_st (((Below.refl _ _).alloc (Nat.le_refl _) _).alloc (by simp) _) hb1 | exact below_st HB.out hb1); clear hb1))
  go_ret
  exact ⟨by rw [e1.out]; rfl, by first | exact ((Below.refl _ _).alloc (Nat.le_refl _) _).alloc (by simp) _ | exact HB.out⟩
 rcases Bool.eq_false_or_eq_true (eqB x.Visits y.Visits) with q_Visits | q_Visits
 rotate_left
 ·have e1 := Hid.mk' (eqB_no (fun e => eqB_ne q_Visits (congrArg Run.Visits e)) : eqB x y = false)
  go_enter Tryz.func179, Tryz.ntmps179
  go_wp2_with (first | (go_at_call 177; refine (EqualStr_calls x.Texts y.Texts _ _ _ (h6.out.below (by first | exact ((Below.refl _ _).alloc (Nat.le_refl _) _).alloc (by simp) _ | exact HB.out)) (g6.out.below (by first | exact ((Below.refl _ _).alloc (Nat.le_refl _) _).alloc (by simp) _ | exact HB.out))).mono ?_; rintro e w1 ⟨rfl, hb1⟩; obtain ⟨hcx, hfx⟩ := bcell hb1; have hz1 : w.heap.size + 1 < w1.heap.size := (by have := hb1.size; (try simp at this); omega); have hz0 : w.heap.size < w1.heap.size := (by omega); have HB := Asd.mk (show Below w.heap.size w w1 from by first | exact below_st (((Below.refl _ _).alloc (Nat.le_refl _) _).alloc (by simp) _) hb1 | exact below_st HB.out hb1); clear hb1))
  go_ret
  exact ⟨by rw [e1.out]; rfl, by first | exact ((Below.refl _ _).alloc (Nat.le_refl _) _).alloc (by simp) _ | exact HB.out⟩
 rcases Bool.eq_false_or_eq_true (eqB x.Texts y.Texts) with q_Texts | q_Texts
 rotate_left
 ·have e1 := Hid.mk' (eqB_no (fun e => eqB_ne q_Texts (congrArg Run.Texts e)) : eqB x y = false)
  go_enter Tryz.func179, Tryz.ntmps179
  go_wp2_with (first | (go_at_call 177; refine (EqualStr_calls x.Texts y.Texts _ _ _ (h6.out.below (by first | exact ((Below.refl _ _).alloc (Nat.le_refl _) _).alloc (by simp) _ | exact HB.out)) (g6.out.below (by first | exact ((Below.refl _ _).alloc (Nat.le_refl _) _).alloc (by simp) _ | exact HB.out))).mono ?_; rintro e w1 ⟨rfl, hb1⟩; obtain ⟨hcx, hfx⟩ := bcell hb1; have hz1 : w.heap.size + 1 < w1.heap.size := (by have := hb1.size; (try simp at this); omega); have hz0 : w.heap.size < w1.heap.size := (by omega); have HB := Asd.mk (show Below w.heap.size w w1 from by first | exact below_st (((Below.refl _ _).alloc (Nat.le_refl _) _).alloc (by simp) _) hb1 | exact below_st HB.out hb1); clear hb1))
  go_ret
  exact ⟨by rw [e1.out]; rfl, by first | exact ((Below.refl _ _).alloc (Nat.le_refl _) _).alloc (by simp) _ | exact HB.out⟩
 have e1 := Hid.mk' (eqB_yes (show x = y by cases x; cases y; simp only [Run.mk.injEq]; exact ⟨eqB_of q_Name, eqB_of q_Over, eqB_of q_Fail, eqB_of q_Text, eqB_of q_At, eqB_of q_Visits, eqB_of q_Texts⟩) : eqB x y = true)
 go_enter Tryz.func179, Tryz.ntmps179
 go_wp2_with (first | (go_at_call 177; refine (EqualStr_calls x.Texts y.Texts _ _ _ (h6.out.below (by first | exact ((Below.refl _ _).alloc (Nat.le_refl _) _).alloc (by simp) _ | exact HB.out)) (g6.out.below (by first | exact ((Below.refl _ _).alloc (Nat.le_refl _) _).alloc (by simp) _ | exact HB.out))).mono ?_; rintro e w1 ⟨rfl, hb1⟩; obtain ⟨hcx, hfx⟩ := bcell hb1; have hz1 : w.heap.size + 1 < w1.heap.size := (by have := hb1.size; (try simp at this); omega); have hz0 : w.heap.size < w1.heap.size := (by omega); have HB := Asd.mk (show Below w.heap.size w w1 from by first | exact below_st (((Below.refl _ _).alloc (Nat.le_refl _) _).alloc (by simp) _) hb1 | exact below_st HB.out hb1); clear hb1))
 go_ret
 exact ⟨by rw [e1.out]; rfl, by first | exact ((Below.refl _ _).alloc (Nat.le_refl _) _).alloc (by simp) _ | exact HB.out⟩
set_option maxRecDepth 100000 in
set_option maxHeartbeats 2000000 in
theorem EqualRun_calls {tRun tRun' : Nat} (xs ys : List Run) (v u : Value) (w : World) (h : rep w (RunsT tRun xs) v) (h' : rep w (RunsT tRun' ys) u) :
  Calls Tryz.prog 178 #[v, u, .func (.func 179) #[] #[]] w fun e w' => e = .returned (.bool (eqB xs ys)) ∧ Below w.heap.size w w' := by
 obtain ⟨A, c, rfl, hc, hn⟩ := rep_len h
 obtain ⟨A', c', rfl, hc', hn'⟩ := rep_len h'
 replace h := Asd.mk h
 replace h' := Asd.mk h'
 have eg := enters_of Tryz.func179 (by kernel_rfl) rfl
 by_cases hl : xs.length = ys.length
 rotate_left
 ·have e1 := Hid.mk' (eqB_no (fun e => hl (congrArg List.length e)) : eqB xs ys = false)
  have hb : ((xs.length : Int) != (ys.length : Int)) = true := by simp; omega
  replace hl := Hid.mk' hl
  go_enter Tryz.func178, Tryz.ntmps178
  go_wp2
  go_ret
  exact ⟨by rw [e1.out]; rfl, Below.refl _ _⟩
 have hb : ((xs.length : Int) != (ys.length : Int)) = false := by simp; omega
 replace hl := Hid.mk' hl
 go_enter Tryz.func178, Tryz.ntmps178
 go_wp2
 go_loopw [17] (fun i wr => ∃ k : Nat, k ≤ xs.length ∧ i = .int .i64 k ∧ eqTo xs ys k ∧ Below w.heap.size w wr) (fun i _ => xs.length - (intOf i).toNat)
 case atStart => exact ⟨0, by omega, rfl, eqTo_zero _ _, Below.refl _ _⟩
 case round =>
  obtain ⟨k, hk, rfl, hA, hbr⟩ := hrel
  by_cases hlt : k < xs.length
  ·have hlt' : k < ys.length := by have := hl.out; omega
   obtain ⟨a, c', v6, he, k0, k1, k2, k3, k4, k5, k6, h6, hr⟩ := Run.elem (h.out.below hbr) hlt
   cases he
   obtain ⟨B6, b6, rfl, _, _⟩ := rep_len h6
   clear h6
   replace hr := Asd.mk hr
   obtain ⟨a, d', u6, he, m0, m1, m2, m3, m4, m5, m6, g6, gr⟩ := Run.elem (h'.out.below (below_st hbr (below_al (Below.refl wr.heap.size wr) (.cells #[.string xs[k].Name, .bool xs[k].Over, .bool xs[k].Fail, .string xs[k].Text, .int .i64 xs[k].At, .int .i64 xs[k].Visits, .slice B6 xs[k].Texts.length b6] 84)))) hlt'
   cases he
   obtain ⟨C6, d6, rfl, _, _⟩ := rep_len g6
   clear g6
   replace gr := Asd.mk gr
   replace hbr := Asd.mk hbr
   have hc2 := sameRun_calls xs[k] ys[k] ((wr.alloc (.cells #[.string xs[k].Name, .bool xs[k].Over, .bool xs[k].Fail, .string xs[k].Text, .int .i64 xs[k].At, .int .i64 xs[k].Visits, .slice B6 xs[k].Texts.length b6] 84)).alloc (.cells #[.string ys[k].Name, .bool ys[k].Over, .bool ys[k].Fail, .string ys[k].Text, .int .i64 ys[k].At, .int .i64 ys[k].Visits, .slice C6 ys[k].Texts.length d6] 84)) (hr.out.below (by repeat first|with_reducible (first|exact Below.refl _ _|exact Below.refl _ _|refine below_al ?_ _|refine below_dr ?_ _|refine below_d1 ?_)|(with_reducible refine Below.setCell ?_ ?_ _;rotate_left;next => first|(simp;done)|(simp;omega)|omega))) (gr.out.below (by repeat first|with_reducible (first|exact Below.refl _ _|exact Below.refl _ _|refine below_al ?_ _|refine below_dr ?_ _|refine below_d1 ?_)|(with_reducible refine Below.setCell ?_ ?_ _;rotate_left;next => first|(simp;done)|(simp;omega)|omega)))
   replace hc2 := Asd.mk hc2
   cases hq : eqB xs[k] ys[k] with
   | true =>
    have e1 := eqTo_succ hA hlt hlt' (eqB_of hq)
    go_wp2_with fail
    refine hc2.out.mono ?_
    rintro e w1 ⟨rfl, hb1⟩
    rw [hq]
    go_wp2
    go_roundw
    case rel => exact ⟨k + 1, by omega, by go_num, e1, below_st hbr.out (below_st (by repeat first|with_reducible (first|exact Below.refl _ _|exact Below.refl _ _|refine below_al ?_ _|refine below_dr ?_ _|refine below_d1 ?_)|(with_reducible refine Below.setCell ?_ ?_ _;rotate_left;next => first|(simp;done)|(simp;omega)|omega)) hb1)⟩
    case measure => simp [intOf]; omega
   | false =>
    have e1 := Hid.mk' (eqB_no (ne_at hlt hlt' (eqB_ne hq)) : eqB xs ys = false)
    go_wp2_with fail
    refine hc2.out.mono ?_
    rintro e w1 ⟨rfl, hb1⟩
    rw [hq]
    go_wp2
    go_ret
    exact ⟨by rw [e1.out]; rfl, below_st hbr.out (below_st (by repeat first|with_reducible (first|exact Below.refl _ _|exact Below.refl _ _|refine below_al ?_ _|refine below_dr ?_ _|refine below_d1 ?_)|(with_reducible refine Below.setCell ?_ ?_ _;rotate_left;next => first|(simp;done)|(simp;omega)|omega)) hb1)⟩
  ·obtain rfl : k = xs.length := by omega
   have e1 := Hid.mk' (eqB_yes (eqTo_end hl.out hA))
   go_wp2
   go_ret
   exact ⟨by rw [e1.out]; rfl, hbr⟩
end Go.Proofs.YtkpkfihaihoaeaaGreatDoor.M
end
section
set_option linter.unusedVariables false
set_option linter.unusedSimpArgs false
namespace Go.Proofs.YtkpkfihaihoaeaaGreatDoor.M
open Go.RowKit
set_option maxRecDepth 100000 in
set_option maxHeartbeats 2000000 in
theorem sameState_calls {tRun tRun' : Nat} (x y : State) (w : World) {vs us : List Value} (h : reps w (x.c tRun) vs) (h' : reps w (y.c tRun') us) :
  Calls Tryz.prog 140 #[.agg vs.toArray, .agg us.toArray] w fun e w' => e = .returned (.bool (eqB x y)) ∧ Below w.heap.size w w' := by
 obtain ⟨v0, v1, rfl, h0, h1⟩ := State.ropen h
 obtain ⟨u0, u1, rfl, g0, g1⟩ := State.ropen h'
 obtain ⟨A0, c0, rfl, _, _⟩ := rep_len h0
 replace h0 := Asd.mk h0
 obtain ⟨B0, b0, rfl, _, _⟩ := rep_len g0
 replace g0 := Asd.mk g0
 obtain ⟨A1, c1, rfl, _, _⟩ := rep_len h1
 replace h1 := Asd.mk h1
 obtain ⟨B1, b1, rfl, _, _⟩ := rep_len g1
 replace g1 := Asd.mk g1
 clear h h'
 rcases Bool.eq_false_or_eq_true (eqB x.Roots y.Roots) with q_Roots | q_Roots
 rotate_left
 ·have e1 := Hid.mk' (eqB_no (fun e => eqB_ne q_Roots (congrArg State.Roots e)) : eqB x y = false)
  go_enter Tryz.func140, Tryz.ntmps140
  go_wp2_with (first | (go_at_call 177; refine (EqualStr_calls x.Roots y.Roots _ _ _ (h0.out.below (by first | exact ((Below.refl _ _).alloc (Nat.le_refl _) _).alloc (by simp) _ | exact HB.out)) (g0.out.below (by first | exact ((Below.refl _ _).alloc (Nat.le_refl _) _).alloc (by simp) _ | exact HB.out))).mono ?_; rintro e w1 ⟨rfl, hb1⟩; obtain ⟨hcx, hfx⟩ := bcell hb1; have hz1 : w.heap.size + 1 < w1.heap.size := (by have := hb1.size; (try simp at this); omega); have hz0 : w.heap.size < w1.heap.size := (by omega); have HB := Asd.mk (show Below w.heap.size w w1 from by first | exact below_st (((Below.refl _ _).alloc (Nat.le_refl _) _).alloc (by simp) _) hb1 | exact below_st HB.out hb1); clear hb1) | (go_at_call 178; refine (EqualRun_calls x.Runs y.Runs _ _ _ (h1.out.below (by first | exact ((Below.refl _ _).alloc (Nat.le_refl _) _).alloc (by simp) _ | exact HB.out)) (g1.out.below (by first | exact ((Below.refl _ _).alloc (Nat.le_refl _) _).alloc (by simp) _ | exact HB.out))).mono ?_; rintro e w1 ⟨rfl, hb1⟩; obtain ⟨hcx, hfx⟩ := bcell hb1; have hz1 : w.heap.size + 1 < w1.heap.size := (by have := hb1.size; (try simp at this); omega); have hz0 : w.heap.size < w1.heap.size := (by omega); have HB := Asd.mk (show Below w.heap.size w w1 from by first | exact below_st (((Below.refl _ _).alloc (Nat.le_refl _) _).alloc (by simp) _) hb1 | exact below_st HB.out hb1); clear hb1))
  go_ret
  exact ⟨by rw [e1.out]; rfl, by first | exact ((Below.refl _ _).alloc (Nat.le_refl _) _).alloc (by simp) _ | exact HB.out⟩
 rcases Bool.eq_false_or_eq_true (eqB x.Runs y.Runs) with q_Runs | q_Runs
 rotate_left
 ·have e1 := Hid.mk' (eqB_no (fun e => eqB_ne q_Runs (congrArg State.Runs e)) : eqB x y = false)
  go_enter Tryz.func140, Tryz.ntmps140
  go_wp2_with (first | (go_at_call 177; refine (EqualStr_calls x.Roots y.Roots _ _ _ (h0.out.below (by first | exact ((Below.refl _ _).alloc (Nat.le_refl _) _).alloc (by simp) _ | exact HB.out)) (g0.out.below (by first | exact ((Below.refl _ _).alloc (Nat.le_refl _) _).alloc (by simp) _ | exact HB.out))).mono ?_; rintro e w1 ⟨rfl, hb1⟩; obtain ⟨hcx, hfx⟩ := bcell hb1; have hz1 : w.heap.size + 1 < w1.heap.size := (by have := hb1.size; (try simp at this); omega); have hz0 : w.heap.size < w1.heap.size := (by omega); have HB := Asd.mk (show Below w.heap.size w w1 from by first | exact below_st (((Below.refl _ _).alloc (Nat.le_refl _) _).alloc (by simp) _) hb1 | exact below_st HB.out hb1); clear hb1) | (go_at_call 178; refine (EqualRun_calls x.Runs y.Runs _ _ _ (h1.out.below (by first | exact ((Below.refl _ _).alloc (Nat.le_refl _) _).alloc (by simp) _ | exact HB.out)) (g1.out.below (by first | exact ((Below.refl _ _).alloc (Nat.le_refl _) _).alloc (by simp) _ | exact HB.out))).mono ?_; rintro e w1 ⟨rfl, hb1⟩; obtain ⟨hcx, hfx⟩ := bcell hb1; have hz1 : w.heap.size + 1 < w1.heap.size := (by have := hb1.size; (try simp at this); omega); have hz0 : w.heap.size < w1.heap.size := (by omega); have HB := Asd.mk (show Below w.heap.size w w1 from by first | exact below_st (((Below.refl _ _).alloc (Nat.le_refl _) _).alloc (by simp) _) hb1 | exact below_st HB.out hb1); clear hb1))
  go_ret
  exact ⟨by rw [e1.out]; rfl, by first | exact ((Below.refl _ _).alloc (Nat.le_refl _) _).alloc (by simp) _ | exact HB.out⟩
 have e1 := Hid.mk' (eqB_yes (show x = y by cases x; cases y; simp only [State.mk.injEq]; exact ⟨eqB_of q_Roots, eqB_of q_Runs⟩) : eqB x y = true)
 go_enter Tryz.func140, Tryz.ntmps140
 go_wp2_with (first | (go_at_call 177; refine (EqualStr_calls x.Roots y.Roots _ _ _ (h0.out.below (by first | exact ((Below.refl _ _).alloc (Nat.le_refl _) _).alloc (by simp) _ | exact HB.out)) (g0.out.below (by first | exact ((Below.refl _ _).alloc (Nat.le_refl _) _).alloc (by simp) _ | exact HB.out))).mono ?_; rintro e w1 ⟨rfl, hb1⟩; obtain ⟨hcx, hfx⟩ := bcell hb1; have hz1 : w.heap.size + 1 < w1.heap.size := (by have := hb1.size; (try simp at this); omega); have hz0 : w.heap.size < w1.heap.size := (by omega); have HB := Asd.mk (show Below w.heap.size w w1 from by first | exact below_st (((Below.refl _ _).alloc (Nat.le_refl _) _).alloc (by simp) _) hb1 | exact below_st HB.out hb1); clear hb1) | (go_at_call 178; refine (EqualRun_calls x.Runs y.Runs _ _ _ (h1.out.below (by first | exact ((Below.refl _ _).alloc (Nat.le_refl _) _).alloc (by simp) _ | exact HB.out)) (g1.out.below (by first | exact ((Below.refl _ _).alloc (Nat.le_refl _) _).alloc (by simp) _ | exact HB.out))).mono ?_; rintro e w1 ⟨rfl, hb1⟩; obtain ⟨hcx, hfx⟩ := bcell hb1; have hz1 : w.heap.size + 1 < w1.heap.size := (by have := hb1.size; (try simp at this); omega); have hz0 : w.heap.size < w1.heap.size := (by omega); have HB := Asd.mk (show Below w.heap.size w w1 from by first | exact below_st (((Below.refl _ _).alloc (Nat.le_refl _) _).alloc (by simp) _) hb1 | exact below_st HB.out hb1); clear hb1))
 go_ret
 exact ⟨by rw [e1.out]; rfl, by first | exact ((Below.refl _ _).alloc (Nat.le_refl _) _).alloc (by simp) _ | exact HB.out⟩
end Go.Proofs.YtkpkfihaihoaeaaGreatDoor.M
end
section
set_option linter.unusedVariables false
set_option linter.unusedSimpArgs false
namespace Go.Proofs.YtkpkfihaihoaeaaGreatDoor.M
open Go.RowKit

set_option maxRecDepth 100000 in
set_option maxHeartbeats 2000000 in
theorem CheckWeb_calls {tN tS tC : Nat} (x : Web) (w : World) {vs : List Value} (h : reps w (x.c tN tS tC) vs) (hz : x.Sm) :
  Calls Tryz.prog 80 #[.agg vs.toArray] w fun e w' => e = .returned (.int .i64 (checkWeb x)) ∧ Below w.heap.size w w' := by
 have hbox : ∀ o, Below w.heap.size w (w.alloc o) := fun o => (Below.refl _ _).alloc (Nat.le_refl _) o
 obtain ⟨v0, rfl, h0⟩ := Web.ropen h
 obtain ⟨A0, c0, rfl, _, hn⟩ := rep_len h0
 replace h0 := Asd.mk h0
 clear h
 by_cases p1 : 60 < x.Nodes.length
 ·have e1 := Hid.mk' (checkWeb1 p1)
  go_enter Tryz.func80, Tryz.ntmps80
  go_wp2
  go_ret
  exact ⟨by rw [e1.out]; rfl, hbox _⟩
 go_enter Tryz.func80, Tryz.ntmps80
 go_wp2
 go_loopw [15] (fun i wr => ∃ k : Nat, k ≤ x.Nodes.length ∧ i = .int .i64 k ∧ allTo nodeNameOk x.Nodes k ∧ Below w.heap.size w wr ∧ w.heap.size < wr.heap.size ∧ wr.cell? ⟨w.heap.size, 0, none⟩ = some (.slice A0 x.Nodes.length c0)) (fun i _ => x.Nodes.length - (intOf i).toNat)
 case atStart => exact ⟨0, by omega, rfl, allTo_zero _ _, hbox _, by simp, by go_simp⟩
 case round =>
  obtain ⟨k, hk, rfl, hA, hbr, hsz, hcl⟩ := hrel
  by_cases hlt : k < x.Nodes.length
  ·obtain ⟨a, c', v2, he, k0, k1, k2, h2, hr⟩ := Node.elem (h0.out.below hbr) hlt
   cases he
   obtain ⟨B2, b2, rfl, _, _⟩ := rep_len h2
   clear h2 hr
   by_cases hx : nameOk x.Nodes[k].Name = true
   ·have e1 := allTo_succ (p := nodeNameOk) hA hlt hx
    go_wp2_with (first | (go_at_call 143; refine (goodName_calls _ _).mono ?_; rintro e w' ⟨rfl, rfl⟩))
    go_roundw
    case rel => exact ⟨k + 1, by omega, by go_num, e1, hbr.alloc hbr.size _, by simp; omega, by go_simp⟩
    case measure => simp [intOf]; omega
   ·have e1 := Hid.mk' (checkWeb2 p1 (allTo_not (p := nodeNameOk) hlt (Bool.eq_false_iff.2 hx)))
    go_wp2_with (first | (go_at_call 143; refine (goodName_calls _ _).mono ?_; rintro e w' ⟨rfl, rfl⟩))
    go_ret
    exact ⟨by rw [e1.out]; rfl, hbr.alloc hbr.size _⟩
  ·obtain rfl : k = x.Nodes.length := by omega
   have hA1 := Hid.mk' (allTo_end hA)
   obtain ⟨wo, hwo⟩ : ∃ wo : World, wo = wr := ⟨_, rfl⟩
   subst hwo
   go_wp2
   go_loopw [5] (fun i wr => ∃ k : Nat, (k = 0 ∨ k + 1 ≤ x.Nodes.length) ∧ i = .int .i64 (k + 1) ∧ ascTo x.Nodes k ∧ Below w.heap.size w wr ∧ w.heap.size < wr.heap.size ∧ wr.cell? ⟨w.heap.size, 0, none⟩ = some (.slice A0 x.Nodes.length c0)) (fun i _ => x.Nodes.length - (intOf i).toNat)
   case atStart => exact ⟨0, .inl rfl, rfl, ascTo_zero _, hbr, hsz, hcl⟩
   case round =>
    obtain ⟨k, hk, rfl, hA, hbr, hsz, hcl⟩ := hrel
    by_cases hlt : k + 1 < x.Nodes.length
    ·obtain ⟨a, c', v2, he, k0, k1, k2, h2, hr⟩ := Node.elem (h0.out.below hbr) (show k < x.Nodes.length by omega)
     cases he
     obtain ⟨a, c', u2, he, m0, m1, m2, g2, gr⟩ := Node.elem (h0.out.below hbr) hlt
     cases he
     clear h2 hr g2 gr k1 k2 m1 m2
     have i1 : (0 : Int) ≤ (k : Int) := by omega
     have i2 : (k : Int) < (x.Nodes.length : Int) := by omega
     have i3 : ((k : Int) + 1) < (x.Nodes.length : Int) := by omega
     by_cases hq : Op.bytesLess x.Nodes[k].Name.toList x.Nodes[k + 1].Name.toList = true
     ·have e1 := ascTo_succ hA hlt hq
      go_wp2
      go_quiet (fail)
      go_wp2
      go_roundw
      case rel => exact ⟨k + 1, .inr (by omega), by go_num, e1, below_dr hbr _, hsz, hcl⟩
      case measure => simp [intOf]; omega
     ·replace hq := Bool.eq_false_iff.2 hq
      have e1 := Hid.mk' (checkWeb3 p1 hA1.out (ascB_not hlt hq))
      go_wp2
      go_quiet (fail)
      go_wp2
      go_ret
      exact ⟨by rw [e1.out]; rfl, below_dr hbr _⟩
    ·have hA2 := Hid.mk' (ascTo_end hA (by omega))
     obtain ⟨wo, hwo⟩ : ∃ wo : World, wo = wr := ⟨_, rfl⟩
     subst hwo
     have i3 : ¬((k : Int) + 1) < (x.Nodes.length : Int) := by omega
     go_wp2
     go_loopw [48] (fun i wr => ∃ k : Nat, k ≤ x.Nodes.length ∧ i = .int .i64 k ∧ allTo nodeActOk x.Nodes k ∧ Below w.heap.size w wr) (fun i _ => x.Nodes.length - (intOf i).toNat)
     case atStart => exact ⟨0, by omega, rfl, allTo_zero _ _, hbr⟩
     case round =>
      clear i3 hA hlt hk hsz hcl hbr
      obtain ⟨k, hk, rfl, hA, hbr⟩ := hrel
      by_cases hlt : k < x.Nodes.length
      ·obtain ⟨a, c', v2, he, k0, k1, k2, h2, hr⟩ := Node.elem (h0.out.below hbr) hlt
       cases he
       obtain ⟨B2, b2, rfl, _, _⟩ := rep_len h2
       replace h2 := Asd.mk h2
       clear hr
       have hsm := hz _ (List.getElem_mem hlt)
       by_cases hx : actionOk x.Nodes[k].Action = true
       ·have e1 := allTo_succ (p := nodeActOk) hA hlt hx
        go_wp2_with (first | (go_at_call 144; refine (ValidAction_calls x.Nodes[k].Action _ (Action.rmk _ (h2.out.below ((Below.refl _ _).alloc (Nat.le_refl _) _))) hsm).mono ?_; rintro e w2 ⟨rfl, hb2⟩))
        go_roundw
        case rel => exact ⟨k + 1, by omega, by go_num, e1, below_st (hbr.alloc hbr.size _) hb2⟩
        case measure => simp [intOf]; omega
       ·have e1 := Hid.mk' (checkWeb4 p1 hA1.out hA2.out (allTo_not (p := nodeActOk) hlt (Bool.eq_false_iff.2 hx)))
        go_wp2_with (first | (go_at_call 144; refine (ValidAction_calls x.Nodes[k].Action _ (Action.rmk _ (h2.out.below ((Below.refl _ _).alloc (Nat.le_refl _) _))) hsm).mono ?_; rintro e w2 ⟨rfl, hb2⟩))
        go_ret
        exact ⟨by rw [e1.out]; rfl, below_st (hbr.alloc hbr.size _) hb2⟩
      ·obtain rfl : k = x.Nodes.length := by omega
       have e1 := Hid.mk' (checkWeb0 p1 hA1.out hA2.out (allTo_end hA))
       go_wp2
       go_ret
       exact ⟨by rw [e1.out]; rfl, hbr⟩

end Go.Proofs.YtkpkfihaihoaeaaGreatDoor.M
end
section
set_option linter.unusedVariables false
set_option linter.unusedSimpArgs false
namespace Go.Proofs.YtkpkfihaihoaeaaGreatDoor.M
open Go.RowKit
def swK (W : Web) (c : Run → Bool) (R : List Run) (k : Nat) : List Run × Bool := ((readyL W R).take k).foldl (swStep W c) (R, false)
theorem swK_zero (W : Web) (c : Run → Bool) (R : List Run) : swK W c R 0 = (R, false) := rfl
theorem swK_succ {W : Web} {c : Run → Bool} {R : List Run} {k : Nat} (h : k < (readyL W R).length) : swK W c R (k + 1) = swStep W c (swK W c R k) (readyL W R)[k] := by
 unfold swK; rw [List.take_succ_eq_append_getElem h, List.foldl_append]; rfl
theorem swK_end (W : Web) (c : Run → Bool) (R : List Run) : swK W c R (readyL W R).length = sweep W c R := by unfold swK; rw [List.take_length]; rfl
theorem swK_ok {W : Web} {roots : List ByteArray} {c : Run → Bool} {R : List Run} (hw : checkWeb W = 0) (h : Reach W roots R) : ∀ k, k ≤ (readyL W R).length → SwOk W roots R (swK W c R k) ((readyL W R).drop k)
 | 0, _ => by rw [swK_zero, List.drop_zero]; exact SwOk.start hw h
 | k + 1, hk => by
  have hlt : k < (readyL W R).length := by omega
  have ih := swK_ok (c := c) hw h k (by omega)
  rw [List.drop_eq_getElem_cons hlt] at ih
  rw [swK_succ hlt]
  exact ih.step hw
/-- who is next in a sweep -/
theorem swK_next {W : Web} {roots : List ByteArray} {c : Run → Bool} {R : List Run} (hw : checkWeb W = 0) (h : Reach W roots R) {k : Nat} (hk : k < (readyL W R).length) :
  ∃ r, runOf (swK W c R k).1 (readyL W R)[k] = some r ∧ isReady W (swK W c R k).1 r = true ∧ r ∈ (swK W c R k).1 := by
 have ih := swK_ok (c := c) hw h k (by omega)
 rw [List.drop_eq_getElem_cons hk] at ih
 obtain ⟨r, hr, hd⟩ := ih.rdy.2 _ (List.mem_cons_self ..)
 exact ⟨r, hr, hd, (runOf_some hr).1⟩
theorem swK_yes {W : Web} {c : Run → Bool} {R : List Run} {k : Nat} {r : Run} (hk : k < (readyL W R).length) (hr : runOf (swK W c R k).1 (readyL W R)[k] = some r) (hc : c r = true) : swK W c R (k + 1) = (doRun W (swK W c R k).1 r, true) := by
 rw [swK_succ hk]; unfold swStep; rw [hr]; simp [hc]
theorem swK_no {W : Web} {c : Run → Bool} {R : List Run} {k : Nat} {r : Run} (hk : k < (readyL W R).length) (hr : runOf (swK W c R k).1 (readyL W R)[k] = some r) (hc : c r = false) : swK W c R (k + 1) = swK W c R k := by
 rw [swK_succ hk]; unfold swStep; rw [hr]; simp [hc]
theorem readyL_len {W : Web} {roots : List ByteArray} {R : List Run} (hw : checkWeb W = 0) (h : Reach W roots R) : (readyL W R).length ≤ 60 := by
 have h1 := (h.inv hw).length hw
 have h2 := (checkWeb_ok hw).1
 unfold readyL readyR
 rw [List.length_map]
 exact Nat.le_trans (List.length_filter_le _ _) (by omega)
/-- the state between two sweeps: mv says whether to go on, T is where it leads -/
structure BtS (W : Web) (roots : List ByteArray) (c : Run → Bool) (T R : List Run) (mv : Bool) : Prop where
 reach : Reach W roots R
 on_ : mv = true → loadR W c R = T
 off : mv = false → R = T
theorem BtS.start (W : Web) (roots : List ByteArray) (c : Run → Bool) : BtS W roots c (loadR W c (begin_ W roots)) (begin_ W roots) true := ⟨.start, fun _ => rfl, fun h => by cases h⟩
theorem BtS.sweep {W : Web} {roots : List ByteArray} {c : Run → Bool} {T R : List Run} (hw : checkWeb W = 0) (h : BtS W roots c T R true) : BtS W roots c T (sweep W c R).1 (sweep W c R).2 := by
 have hs := sweep_ok (c := c) hw h.reach
 refine ⟨hs.reach, fun hm => ?_, fun hm => ?_⟩
 ·rw [← loadR_go hw h.reach hm]; exact h.on_ rfl
 ·rw [hs.still hm, ← h.on_ rfl, loadR_end hw h.reach hm]
def btM (W : Web) (R : List Run) (mv : Bool) : Nat := if mv then mu W R + 1 else 0
theorem btM_lt {W : Web} {roots : List ByteArray} {c : Run → Bool} {R : List Run} (hw : checkWeb W = 0) (h : Reach W roots R) : btM W (M.sweep W c R).1 (M.sweep W c R).2 < btM W R true := by
 have hs := sweep_ok (c := c) hw h
 unfold btM
 simp only [if_true]
 split
 ·rename_i hm
  have := hs.moved hm
  omega
 ·omega
end Go.Proofs.YtkpkfihaihoaeaaGreatDoor.M
end
