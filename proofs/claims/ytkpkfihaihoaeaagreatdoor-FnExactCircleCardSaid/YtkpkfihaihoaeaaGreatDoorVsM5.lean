/- Texts put together: Contracts: the engine of a state. Contracts: the reference's ValidState. Contracts: ValidState. Values in blocks of their own between two bounds; what marks do to them. Contracts: the laws' own marks. What is handed back only to be read; marks of lists of strings between two bounds. Contracts: the laws' own marks. Contracts: the laws' own marks. How many scalars a web has, against its size. How many scalars a state at its start has. -/
import Derived.Test.YtkpkfihaihoaeaaGreatDoorVsM4
import Derived.Deep.RegionHeld3
section
set_option linter.unusedVariables false
set_option linter.unusedSimpArgs false
namespace Go.Proofs.YtkpkfihaihoaeaaGreatDoor.M
open Go.RowKit
theorem lookC_map {C : List (ByteArray × Value)} {q p : ByteArray} {v : Value} : lookC (C.map fun x => if x.1 = q then (x.1, v) else x) p = if q = p then (lookC C q).map (fun _ => v) else lookC C p := by
 induction C with
 | nil => simp [lookC_nil]
 | cons x C ih =>
  rw [List.map_cons, lookC_cons, ih, lookC_cons, lookC_cons]
  by_cases e : x.1 = q
  ·by_cases e2 : q = p
   ·simp [e, e2]
   ·simp [e, e2]
  ·by_cases e2 : q = p
   ·subst e2; simp [e]
   ·simp [e, e2]
theorem lookC_append {C : List (ByteArray × Value)} {q p : ByteArray} {v : Value} : lookC (C ++ [(q, v)]) p = match lookC C p with
  | some u => some u
  | none => if q = p then some v else none := by
 induction C with
 | nil => simp [lookC_nil, lookC_cons]
 | cons x C ih =>
  rw [List.cons_append, lookC_cons, ih, lookC_cons]
  by_cases e : x.1 = p
  ·simp [e]
  ·simp [e]
theorem lookC_put {C : List (ByteArray × Value)} {q p : ByteArray} {v : Value} : lookC (putC C q v) p = if q = p then some v else lookC C p := by
 unfold putC
 cases h : lookC C q with
 | some u =>
  rw [Option.isSome_some, if_pos rfl, lookC_map, h]; rfl
 | none =>
  rw [Option.isSome_none, if_neg (by simp), lookC_append]
  by_cases e : q = p
  ·subst e; simp [h]
  ·simp only [e, if_false]
   cases lookC C p <;> rfl
/-- the runs by name, as a map holds them -/
def GoalC (S : List Run) (C : List (ByteArray × Value)) : Prop := ∀ q, match S.reverse.find? (rIs q) with
 | none => lookC C q = none
 | some r => ∃ A c, lookC C q = some (.agg (runCells r (.slice A r.Texts.length c)))
theorem GoalC.nil : GoalC [] [] := fun q => by simp [lookC_nil]
theorem GoalC.put {S : List Run} {C : List (ByteArray × Value)} (h : GoalC S C) (r : Run) (A : Option Addr) (c : Nat) : GoalC (S ++ [r]) (putC C r.Name (.agg (runCells r (.slice A r.Texts.length c)))) := by
 intro q
 have h1 := h q
 rw [List.reverse_append, List.reverse_singleton, List.singleton_append, List.find?_cons, lookC_put]
 by_cases e : r.Name = q
 ·rw [(rIs_iff q r).2 e, if_pos e]
  exact ⟨A, c, rfl⟩
 ·rw [rIs_ne e, if_neg e]
  exact h1
theorem GoalC.get {S : List Run} {C : List (ByteArray × Value)} (h : GoalC S C) (q : ByteArray) : (lookC C q = none ∧ goalOf S q = zRun) ∨ ∃ A c, lookC C q = some (.agg (runCells (goalOf S q) (.slice A (goalOf S q).Texts.length c))) := by
 have h1 := h q
 unfold goalOf
 cases hf : S.reverse.find? (rIs q) with
 | none => rw [hf] at h1; exact .inl ⟨h1, rfl⟩
 | some r => rw [hf] at h1; exact .inr h1
def LoadP (W : Web) (s : State) (w : World) (e' : Ending) (w' : World) : Prop := Below w.heap.size w w' ∧ ((validS W s = true ∧ ∃ eg F lo, e' = .returned (.pointer (some ⟨eg, 0, none⟩)) ∧ w.heap.size ≤ lo ∧ Eng lo w' W s.Roots s.Runs eg F) ∨ (validS W s = false ∧ e' = .returned (.pointer none)))
theorem valid_web {W : Web} {s : State} (h : ¬checkWeb W = 0) : validS W s = false := by unfold validS; simp [h]
theorem valid_roots {W : Web} {s : State} (h : rootsOk s.Roots = false) : validS W s = false := by unfold validS; simp [h]
theorem valid_len {W : Web} {s : State} (hw : checkWeb W = 0) (h : W.Nodes.length < s.Runs.length) : validS W s = false := by
 cases hv : validS W s with
 | false => rfl
 | true =>
  obtain ⟨_, _, hr⟩ := validS_reach hv
  have := (hr.inv hw).length hw
  omega
theorem valid_come {W : Web} {s : State} (hw : checkWeb W = 0) (hr : rootsOk s.Roots = true) : validS W s = eqB (⟨s.Roots, comeTo W s⟩ : State) s := by
 unfold validS
 rw [hr, decide_eq_true hw]
 simp only [Bool.true_and, eqB]
 rw [decide_eq_decide]
 constructor
 ·intro h; rw [h]
 ·intro h; exact congrArg State.Runs h
theorem zero_runR (w : World) : (zeroValue 84).run Tryz.prog w = .ok (.agg (runCells zRun (.slice none 0 0))) w := by kernel_rfl
theorem EngX.run_all {lo : Nat} {w : World} {W : Web} {roots : List ByteArray} {R : List Run} {e : Nat} {F : List Nat} {m : Nat} {nv rv : Value} {L : List Ent} {Fr : List Nat} {W0 : World} {tN tS tC : Nat} (h : EngX lo w W roots R e F m nv rv L Fr W0 tN tS tC) {q : ByteArray} {r : Run} (hq : runOf R q = some r) : ∃ x ∈ L, x.r = r ∧ ∀ Y, Below w.heap.size w Y → (Instr.lookup 123 (.map (some m)) (.string q) false).run Tryz.prog Y = .ok (.pointer (some ⟨x.b, 0, none⟩)) Y := by
 obtain ⟨x, hx, hr, hl⟩ := h.look_some hq
 refine ⟨x, hx, hr, fun Y hY => ?_⟩
 have := (h.map.move (hY.block m h.map.lt)).look (Pg := Tryz.prog) Tryz.underlying123 Tryz.underlying9 (zero_runP Y) q false
 rw [hl] at this
 exact this
theorem goal_look {S : List Run} {C : List (ByteArray × Value)} {w : World} {gm : Nat} (hG : GoalC S C) (hM : MapAt w gm C) (q : ByteArray) : ∃ A c, ∀ Y, Below w.heap.size w Y → (Instr.lookup 171 (.map (some gm)) (.string q) false).run Tryz.prog Y = .ok (.agg (runCells (goalOf S q) (.slice A (goalOf S q).Texts.length c))) Y := by
 rcases hG.get q with ⟨h1, h2⟩ | ⟨A, c, h1⟩
 ·refine ⟨none, 0, fun Y hY => ?_⟩
  have := (hM.move (hY.block gm hM.lt)).look (Pg := Tryz.prog) Tryz.underlying171 Tryz.underlying9 (zero_runR Y) q false
  rw [h1] at this
  rw [h2]
  exact this
 ·refine ⟨A, c, fun Y hY => ?_⟩
  have := (hM.move (hY.block gm hM.lt)).look (Pg := Tryz.prog) Tryz.underlying171 Tryz.underlying9 (zero_runR Y) q false
  rw [h1] at this
  exact this
set_option maxRecDepth 100000 in
set_option maxHeartbeats 8000000 in
theorem load_calls {tN tS tC t : Nat} (W : Web) (s : State) (w : World) {vs us : List Value} (hW : reps w (W.c tN tS tC) vs) (h : reps w (State.c t s) us) (hz : W.Sm) (hgl : 3 < w.heap.size) (hgt : w.cell? ⟨3, 15, none⟩ = some (.int .u8 4)) :
  Calls Tryz.prog 76 #[.agg vs.toArray, .agg us.toArray] w (LoadP W s w) := by
 obtain ⟨v0, rfl, h0⟩ := Web.ropen hW
 obtain ⟨A, c, rfl, _, _⟩ := rep_len h0
 obtain ⟨u0, u1, rfl, g0, g1⟩ := State.ropen h
 obtain ⟨D, k, rfl, _, _⟩ := rep_len g0
 obtain ⟨B, d, rfl, _, _⟩ := rep_len g1
 replace h0 := Asd.mk h0
 replace g0 := Asd.mk g0
 replace g1 := Asd.mk g1
 replace h := Asd.mk h
 clear hW
 have HB := Asd.mk (below_al (below_al (Below.refl w.heap.size w) (.cells #[.slice A W.Nodes.length c] 34)) (.cells #[.slice D s.Roots.length k, .slice B s.Runs.length d] 38))
 by_cases q1 : checkWeb W = 0
 rotate_left
 ·have e1 := Asd.mk (valid_web (s := s) q1)
  obtain ⟨n, hn⟩ : ∃ n, checkWeb W = n := ⟨_, rfl⟩
  have q2 : decide (n = 0) = false := by simp [← hn, q1]
  go_enter Tryz.func76, Tryz.ntmps76
  go_wp2_with fail
  refine (CheckWeb_calls W _ (Web.rmk W (h0.out.below HB.out)) hz).mono ?_
  rintro e w1 ⟨rfl, hb⟩
  rw [hn]
  replace q1 : n ≠ 0 := hn ▸ q1
  clear hn
  have HW := Asd.mk (below_st HB.out hb)
  clear hb
  go_wp2
  go_ret
  exact ⟨by repeat first|with_reducible (first|exact Below.refl _ _|exact HW.out|refine below_al ?_ _|refine below_dr ?_ _|refine below_d1 ?_)|(with_reducible refine Below.setCell ?_ ?_ _;rotate_left;next => first|(simp;done)|(simp;omega)|omega), .inr ⟨e1.out, rfl⟩⟩
 by_cases q2 : rootsOk s.Roots = true
 rotate_left
 ·replace q2 := Bool.eq_false_iff.2 q2
  have e1 := Asd.mk (valid_roots (W := W) q2)
  go_enter Tryz.func76, Tryz.ntmps76
  go_wp2_with fail
  refine (CheckWeb_calls W _ (Web.rmk W (h0.out.below HB.out)) hz).mono ?_
  rintro e w1 ⟨rfl, hb⟩
  rw [q1]
  obtain ⟨hcx, hfx⟩ := bcell hb
  have hzz : w.heap.size + 1 < w1.heap.size := by have := hb.size; simp at this; omega
  have HW := Asd.mk (below_st HB.out hb)
  clear hb
  go_wp2_with (first | (go_at_call 81; refine (goodRoots_calls s.Roots _ _ (g0.out.below HW.out)).mono ?_; rintro e w' ⟨rfl, rfl⟩))
  go_ret
  exact ⟨by repeat first|with_reducible (first|exact Below.refl _ _|exact HW.out|refine below_al ?_ _|refine below_dr ?_ _|refine below_d1 ?_)|(with_reducible refine Below.setCell ?_ ?_ _;rotate_left;next => first|(simp;done)|(simp;omega)|omega), .inr ⟨e1.out, rfl⟩⟩
 obtain ⟨hwl, _, hA2, _⟩ := checkWeb_ok q1
 by_cases q3 : 60 < s.Runs.length
 ·have e1 := Asd.mk (valid_len (s := s) q1 (by omega))
  go_enter Tryz.func76, Tryz.ntmps76
  go_wp2_with fail
  refine (CheckWeb_calls W _ (Web.rmk W (h0.out.below HB.out)) hz).mono ?_
  rintro e w1 ⟨rfl, hb⟩
  rw [q1]
  obtain ⟨hcx, hfx⟩ := bcell hb
  have hzz : w.heap.size + 1 < w1.heap.size := by have := hb.size; simp at this; omega
  have HW := Asd.mk (below_st HB.out hb)
  clear hb
  go_wp2_with (first | (go_at_call 81; refine (goodRoots_calls s.Roots _ _ (g0.out.below HW.out)).mono ?_; rintro e w' ⟨rfl, rfl⟩))
  go_ret
  exact ⟨by repeat first|with_reducible (first|exact Below.refl _ _|exact HW.out|refine below_al ?_ _|refine below_dr ?_ _|refine below_d1 ?_)|(with_reducible refine Below.setCell ?_ ?_ _;rotate_left;next => first|(simp;done)|(simp;omega)|omega), .inr ⟨e1.out, rfl⟩⟩
 have hrl := rootsOk_le q2
 have hmm := @run_makeMap Tryz.prog
 have hasc := Asd.mk (ascB_asc hA2)
 have hval := Asd.mk (valid_come q1 q2)
 go_enter Tryz.func76, Tryz.ntmps76
 go_wp2_with fail
 refine (CheckWeb_calls W _ (Web.rmk W (h0.out.below HB.out)) hz).mono ?_
 rintro e w1 ⟨rfl, hb⟩
 rw [q1]
 obtain ⟨hcx, hfx⟩ := bcell hb
 have hzz : w.heap.size + 1 < w1.heap.size := by have := hb.size; simp at this; omega
 have HW := Asd.mk (below_st HB.out hb)
 have a0 : w1.cell? ⟨w.heap.size, 0, none⟩ = some (.slice A W.Nodes.length c) := by rw [hcx _ _ (by simp; omega)]; go_simp
 have b0 : w1.cell? ⟨w.heap.size + 1, 0, none⟩ = some (.slice D s.Roots.length k) := by rw [hcx _ _ (by simp)]; go_simp
 have b1 : w1.cell? ⟨w.heap.size + 1, 1, none⟩ = some (.slice B s.Runs.length d) := by rw [hcx _ _ (by simp)]; go_simp
 clear hb hcx hfx
 go_upto_region 3 with (first | (go_at_call 81; refine (goodRoots_calls s.Roots _ _ (g0.out.below HW.out)).mono ?_; rintro e w' ⟨rfl, rfl⟩))
 have hM0 := Asd.mk (MapAt.new w1)
 go_wp2
 go_loopw [33] (fun i wr => ∃ (j : Nat) (C : List (ByteArray × Value)), j ≤ s.Runs.length ∧ i = .int .i64 j ∧ MapAt wr w1.heap.size C ∧ GoalC (tkTo s.Runs j) C ∧ Below w1.heap.size w1 wr) (fun i _ => s.Runs.length - (intOf i).toNat)
 case atStart => exact ⟨0, [], by omega, rfl, hM0.out, by rw [tkTo_zero]; exact GoalC.nil, by repeat first|with_reducible (first|exact Below.refl _ _|exact Below.refl _ _|refine below_al ?_ _|refine below_dr ?_ _|refine below_d1 ?_)|(with_reducible refine Below.setCell ?_ ?_ _;rotate_left;next => first|(simp;done)|(simp;omega)|omega)⟩
 case round =>
  obtain ⟨j, C, hj, rfl, hMj, hGj, hbj⟩ := hrel
  by_cases hlt : j < s.Runs.length
  ·obtain ⟨a, c', v6, he, k0, k1, k2, k3, k4, k5, k6, hk6, _⟩ := Run.elem (g1.out.below (below_st HW.out hbj)) hlt
   cases he
   obtain ⟨E, e, rfl, _, _⟩ := rep_len hk6
   obtain ⟨r, hr⟩ : ∃ r, s.Runs[j] = r := ⟨_, rfl⟩
   have e1 := Asd.mk (show tkTo s.Runs (j + 1) = tkTo s.Runs j ++ [r] by rw [tkTo_succ hlt, hr])
   rw [hr] at k0 k1 k2 k3 k4 k5 k6
   have hM1 := Asd.mk (hMj.move (heap_alloc_old wr (.cells (runCells r (.slice E r.Texts.length e)) 84) hMj.lt))
   have zM := hMj.lt
   replace hGj := Asd.mk hGj
   replace hbj := Asd.mk hbj
   clear hk6 hMj hr
   have hz1 := hbj.out.size
   go_wp2_with (at_mapUpdate; refine wpMapSet rfl rfl Tryz.underlying171 Tryz.underlying9 rfl hM1.out rfl rfl ?_)
   intro w2 hM2 hO
   have hb2 := Asd.mk (hO.far.below (by simp; omega))
   have hb3 := Asd.mk (show Below w1.heap.size w1 w2 from (show Below w1.heap.size w1 (wr.alloc (.cells (runCells r (.slice E r.Texts.length e)) 84)) from by repeat first|with_reducible (first|exact Below.refl _ _|exact hbj.out|refine below_al ?_ _|refine below_dr ?_ _|refine below_d1 ?_)|(with_reducible refine Below.setCell ?_ ?_ _;rotate_left;next => first|(simp;done)|(simp;omega)|omega)).trans (by have := hO.far.below (w := wr.alloc (.cells (runCells r (.slice E r.Texts.length e)) 84)) (by simp; omega); exact this))
   have hM3 := Asd.mk hM2
   clear hO hM2
   go_wp2
   go_roundw
   case rel => exact ⟨j + 1, _, by omega, by go_num, hM3.out, by rw [e1.out]; exact hGj.out.put r E e, hb3.out⟩
   case measure => simp [intOf]; omega
  ·obtain rfl : j = s.Runs.length := by omega
   rw [tkTo_end] at hGj
   obtain ⟨gm, hgm⟩ : ∃ gm, gm = w1.heap.size := ⟨_, rfl⟩
   rw [← hgm] at hMj ⊢
   obtain ⟨Vb, eB⟩ : ∃ Vb, Vb = wr := ⟨_, rfl⟩
   rw [← eB] at hMj hbj ⊢
   clear eB wr
   have HWr := Asd.mk (below_st HW.out hbj)
   have b0r := cell_below hbj b0
   have b1r := cell_below hbj b1
   have a0r := cell_below hbj a0
   have zgm := hMj.lt
   have hzr := hbj.size
   replace hMj := Asd.mk hMj
   replace hGj := Asd.mk hGj
   replace hgm := Asd.mk hgm
   clear hbj a0 b0 b1 hM0
   go_wp2_with fail
   refine (begin_calls W s.Roots _ _ (Web.rmk W (h0.out.below HWr.out)) (g0.out.below HWr.out) hasc.out (by omega) (by omega)).mono ?_
   rintro e' w3 ⟨eg, F, rfl, hE, hb⟩
   replace hE := Asd.mk hE
   replace hb := Asd.mk hb
   clear hmm
   go_wp2
   go_loopg [9] (mu W (begin_ W s.Roots) + 1) (fun kx s9 wx => ∃ (mv : Bool) (R : List Run) (F' : List Nat), s9 = .bool mv ∧ BtS W s.Roots (goCond s.Runs) (comeTo W s) R mv ∧ Eng Vb.heap.size wx W s.Roots R eg F' ∧ Below Vb.heap.size Vb wx ∧ btM W R mv ≤ kx)
   case atStart => exact ⟨true, _, F, rfl, BtS.start _ _ _, hE.out, hb.out, Nat.le_refl _⟩
   case round =>
    obtain ⟨mv, R, F', rfl, hB, hE', hb', hkx⟩ := hrel
    cases mv with
    | false =>
     have hInv := Asd.mk (hB.reach.inv q1)
     have hR := hB.off rfl
     have hRl : R.length ≤ 1000000 := by have := hInv.out.length q1; omega
     have hRt : ∀ r ∈ R, r.Texts.length ≤ 1000000 := fun r hr => by have h1 := (hInv.out.ok r hr).many; have h2 := (hInv.out.ok r hr).vis1; omega
     have hval2 : Asd (validS W s = eqB (⟨s.Roots, R⟩ : State) s) := Asd.mk (by rw [hval.out, hR])
     have b0x := cell_below hb' b0r
     have b1x := cell_below hb' b1r
     have hkeep := Asd.mk (show ∀ Y, Below wr.heap.size wr Y → (Below wr.heap.size wr Y ∧ Y.cell? ⟨w.heap.size + 1, 0, none⟩ = some (.slice D s.Roots.length k) ∧ Y.cell? ⟨w.heap.size + 1, 1, none⟩ = some (.slice B s.Runs.length d)) from fun Y hb => ⟨hb, cell_below hb b0x, cell_below hb b1x⟩)
     have s_0 : Below wr.heap.size wr wr.drew := (Below.refl _ _).drew
     have hbw := Asd.mk (show Below w.heap.size w wr from HWr.out.trans (hb'.mono HWr.out.size))
     replace hE' := Asd.mk hE'
     replace hb' := Asd.mk hb'
     have hlo := HWr.out.size
     clear hB hR b0x b1x
     go_upto_region 21 with (fail)
     refine wp_region_held_drew (S := fun Y => Below wr.heap.size wr Y ∧ Y.cell? ⟨w.heap.size + 1, 0, none⟩ = some (.slice D s.Roots.length k) ∧ Y.cell? ⟨w.heap.size + 1, 1, none⟩ = some (.slice B s.Runs.length d)) (by kernel_rfl) (hkeep.out _ s_0) (fun hHeld => ?_)
     (((refine wH 0 (v:=?_) rfl (by kernel_rfl) (fun _ _ _ h => h) (by rfl) ?_ (by assumption) ?_;rotate_left;next => ((intro X hX;(try dsimp only at hX);go_simp);try with_reducible rfl));try simp only [Act.put,List.getElem_toArray,List.getElem_cons_succ,List.getElem_cons_zero,List.setIfInBounds_toArray,List.set_cons_zero,List.set_cons_succ]); ((refine wH 2 (v:=?_) rfl (by kernel_rfl) (fun _ _ _ h => h) (by rfl) ?_ (by assumption) ?_;rotate_left;next => ((intro X hX;(try dsimp only at hX);go_simp);try with_reducible rfl));try simp only [Act.put,List.getElem_toArray,List.getElem_cons_succ,List.getElem_cons_zero,List.setIfInBounds_toArray,List.set_cons_zero,List.set_cons_succ]))
     (refine wpAnyH_ready (rs := [1]) (by kernel_rfl) (by simp) ?_; refine AllReadyH.cons rfl (fun K hK => ?_) AllReadyH.nil)
     go_simp
     refine (state_calls W s.Roots R eg F' _ (hE'.out.later (by repeat first|with_reducible (first|exact Below.refl _ _|exact s_0|refine below_al ?_ _|refine below_dr ?_ _|refine below_d1 ?_)|(with_reducible refine Below.setCell ?_ ?_ _;rotate_left;next => first|(simp;done)|(simp;omega)|omega))) hRl (by omega) hRt).mono ?_
     rintro e' w6 ⟨v0, v1, rfl, hM6, hb6⟩
     have hb6w := Asd.mk (below_st (show Below wr.heap.size wr _ from by repeat first|with_reducible (first|exact Below.refl _ _|exact s_0|refine below_al ?_ _|refine below_dr ?_ _|refine below_d1 ?_)|(with_reducible refine Below.setCell ?_ ?_ _;rotate_left;next => first|(simp;done)|(simp;omega)|omega)) hb6)
     have hr6 := Asd.mk (hM6.lies.reps)
     obtain ⟨_, _, he6, p0, p1⟩ := State.ropen hr6.out
     obtain ⟨A6, d6, rfl, _, _⟩ := rep_len p0
     obtain ⟨B6, c6, rfl, _, _⟩ := rep_len p1
     cases he6
     clear hb6 hM6 p0 p1
     refine hK.out _ _ (hkeep.out _ hb6w.out) (fun hHeld => ?_)
     clear hK K
     (refine wpAnyH_ready (rs := [3]) (by kernel_rfl) (by simp) ?_; refine AllReadyH.cons rfl (fun K hK => ?_) AllReadyH.nil)
     go_simp
     refine (sameState_calls ⟨s.Roots, R⟩ s _ hr6.out (h.out.below (hbw.out.trans (hb6w.out.mono hbw.out.size)))).mono ?_
     rintro e' w7 ⟨rfl, hb7⟩
     have hb7w := Asd.mk (below_st hb6w.out hb7)
     clear hb7
     refine hK.out _ _ (hkeep.out _ hb7w.out) (fun hHeld => ?_)
     clear hK K
     (((refine wH 4 (v:=?_) rfl (by kernel_rfl) (fun _ _ _ h => h) (by rfl) ?_ (by assumption) ?_;rotate_left;next => ((intro X hX;(try dsimp only at hX);go_simp);try with_reducible rfl));try simp only [Act.put,List.getElem_toArray,List.getElem_cons_succ,List.getElem_cons_zero,List.setIfInBounds_toArray,List.set_cons_zero,List.set_cons_succ]))
     refine wpAnyH_done (by kernel_rfl) ?_ _
     have hbf := Asd.mk (hbw.out.trans (hb7w.out.mono hbw.out.size))
     clear hHeld hkeep
     cases hq : eqB (⟨s.Roots, R⟩ : State) s with
     | true =>
      rw [hq] at hval2
      have hs : R = s.Runs := congrArg State.Runs (eqB_of hq)
      replace hs := Asd.mk hs
      go_wp2
      go_ret
      exact ⟨hbf.out, .inl ⟨hval2.out, eg, F', Vb.heap.size, rfl, hlo, by rw [← hs.out]; exact hE'.out.later hb7w.out⟩⟩
     | false =>
      rw [hq] at hval2
      go_wp2
      go_ret
      exact ⟨hbf.out, .inr ⟨hval2.out, rfl⟩⟩
    | true =>
     have hInv := Asd.mk (hB.reach.inv q1)
     replace hB := Asd.mk hB
     have hFl := Asd.mk hE'.lt
     replace hE' := Asd.mk hE'
     replace hb' := Asd.mk hb'
     go_wp2_with fail
     refine (ready_calls W s.Roots R eg F' _ hE'.out q1 hInv.out).mono ?_
     rintro e' w5 ⟨v5, rfl, ⟨Fl, ol, nl, ll⟩, hb5⟩
     obtain ⟨Al, cl, rfl, _, _⟩ := own_slice ol
     have hdis := Asd.mk (show ∀ b ∈ Fl, b ∉ F' from fun b hb hb' => by have := ll b hb; have := hFl.out b hb'; omega)
     have hE5 := Asd.mk (EngP.same (lo := Vb.heap.size) (hE'.out.later hb5) (Below.refl _ _))
     have hb5 := Asd.mk (below_st hb'.out hb5)
     replace ol := Asd.mk ol
     have hrlen := readyL_len q1 hB.out.reach
     clear nl ll
     go_wp2
     go_loopw [9, 50] (fun s9 i wy => ∃ j : Nat, j ≤ (readyL W R).length ∧ i = .int .i64 j ∧ s9 = .bool (swK W (goCond s.Runs) R j).2 ∧ EngP Vb.heap.size W s.Roots (swK W (goCond s.Runs) R j).1 eg F' w5 wy) (fun _ i _ => (readyL W R).length - (intOf i).toNat)
     case atStart => exact ⟨0, by omega, rfl, by rw [swK_zero], by rw [swK_zero]; exact hE5.out⟩
     case round =>
      obtain ⟨j, hj, rfl, rfl, F2, hE2, hf2, hs2⟩ := hrel
      by_cases hlt : j < (readyL W R).length
      ·obtain ⟨al, c', he, hcell⟩ := str_elem (hf2.own ol.out hdis.out).rep hlt
       cases he
       obtain ⟨r, hr, hrd, hrm⟩ := swK_next (c := goCond s.Runs) q1 hB.out.reach hlt
       have hI2 := Asd.mk ((swK_ok (c := goCond s.Runs) q1 hB.out.reach j (by omega)).reach.inv q1)
       obtain ⟨q, hq⟩ : ∃ q, (readyL W R)[j] = q := ⟨_, rfl⟩
       rw [hq] at hcell hr
       obtain ⟨R2, hR2⟩ : ∃ R2, (swK W (goCond s.Runs) R j).1 = R2 := ⟨_, rfl⟩
       obtain ⟨mv2, hmv⟩ : ∃ mv2, (swK W (goCond s.Runs) R j).2 = mv2 := ⟨_, rfl⟩
       have hyes := Asd.mk (fun hc => swK_yes (c := goCond s.Runs) hlt (by rw [hq]; exact hr) hc)
       have hno := Asd.mk (fun hc => swK_no (c := goCond s.Runs) hlt (by rw [hq]; exact hr) hc)
       rw [hR2] at hr hrd hE2 hI2 hrm
       rw [hmv]
       have hby := Asd.mk (MFr.upon hf2 hb5.out (by omega) (hE'.out.above))
       have hE3 := Asd.mk hE2
       obtain ⟨m, nv, rv, L, Fr, W0, tN', tS', tC', hX⟩ := hE2
       obtain ⟨A3, c3, B3, d3, rfl, rfl, _, _, x0, x1, x2⟩ := hX.cells
       obtain ⟨x, hx, hxr, hlr⟩ := hX.run_all hr
       obtain ⟨Ag, cg, hlg⟩ := goal_look hGj.out (hMj.out.move (hby.out.block gm zgm)) q
       have hRx := (hX.runs x hx).1
       have y5 : wr.cell? ⟨x.b, 5, none⟩ = some (.int .i64 x.r.Visits) := cellOf hRx (i := 5) rfl
       subst hxr
       obtain ⟨gr, hgr⟩ : ∃ gr, goalOf s.Runs q = gr := ⟨_, rfl⟩
       rw [hgr] at hlg
       replace hlg : ∀ Y, Below wr.heap.size wr Y → (Instr.lookup 171 (.map (some gm)) (.string q) false).run Tryz.prog Y = .ok (.agg #[.string gr.Name, .bool gr.Over, .bool gr.Fail, .string gr.Text, .int .i64 gr.At, .int .i64 gr.Visits, .slice Ag gr.Texts.length cg]) Y := hlg
       have zx : x.b < wr.heap.size := lt_of_heap hRx
       have hkeep := Asd.mk (show ∀ Y, Below wr.heap.size wr Y → (Below wr.heap.size wr Y ∧ Y.cell? ⟨eg, 2, none⟩ = some (.map (some m))) from fun Y hb => ⟨hb, cell_below hb x2⟩)
       have s_0 : Below wr.heap.size wr wr.drew := (Below.refl _ _).drew
       clear x0 x1 hRx
       replace hX := Asd.mk hX
       replace hx := Asd.mk hx
       replace hf2 := Asd.mk hf2
       replace hs2 := Asd.mk hs2
       replace hr := Asd.mk hr
       replace hrm := Asd.mk hrm
       replace hrd := Asd.mk hrd
       go_upto_region 16 with (fail)
       refine wp_region_held_drew (S := fun Y => Below wr.heap.size wr Y ∧ Y.cell? ⟨eg, 2, none⟩ = some (.map (some m))) (by kernel_rfl) (hkeep.out _ s_0) (fun hHeld => ?_)
       (((refine wH 0 (v:=?_) rfl (by kernel_rfl) (fun _ _ _ h => h) (by rfl) ?_ (by assumption) ?_;rotate_left;next => ((intro X hX;(try dsimp only at hX);go_simp);try with_reducible rfl));try simp only [Act.put,List.getElem_toArray,List.getElem_cons_succ,List.getElem_cons_zero,List.setIfInBounds_toArray,List.set_cons_zero,List.set_cons_succ]); ((refine wH 1 (v:=?_) rfl (by kernel_rfl) (fun _ _ _ h => h) (by rfl) ?_ (by assumption) ?_;rotate_left;next => ((intro X hX;(try dsimp only at hX);go_simp);try with_reducible rfl));try simp only [Act.put,List.getElem_toArray,List.getElem_cons_succ,List.getElem_cons_zero,List.setIfInBounds_toArray,List.set_cons_zero,List.set_cons_succ]); ((refine wH 2 (v:=?_) rfl (by kernel_rfl) (fun _ _ _ h => h) (by rfl) ?_ (by assumption) ?_;rotate_left;next => ((intro X hX;(try dsimp only at hX);go_simp);try with_reducible rfl));try simp only [Act.put,List.getElem_toArray,List.getElem_cons_succ,List.getElem_cons_zero,List.setIfInBounds_toArray,List.set_cons_zero,List.set_cons_succ]); ((refine wH 3 (v:=?_) rfl (by kernel_rfl) (fun _ _ _ h => h) (by rfl) ?_ (by assumption) ?_;rotate_left;next => ((intro X hX;(try dsimp only at hX);go_simp);try with_reducible rfl));try simp only [Act.put,List.getElem_toArray,List.getElem_cons_succ,List.getElem_cons_zero,List.setIfInBounds_toArray,List.set_cons_zero,List.set_cons_succ]); ((refine wH 4 (v:=?_) rfl (by kernel_rfl) (fun _ _ _ h => h) (by rfl) ?_ (by assumption) ?_;rotate_left;next => ((intro X hX;(try dsimp only at hX);go_simp);try with_reducible rfl));try simp only [Act.put,List.getElem_toArray,List.getElem_cons_succ,List.getElem_cons_zero,List.setIfInBounds_toArray,List.set_cons_zero,List.set_cons_succ]); ((refine wH 5 (v:=?_) rfl (by kernel_rfl) (fun _ _ _ h => h) (by rfl) ?_ (by assumption) ?_;rotate_left;next => ((intro X hX;(try dsimp only at hX);go_simp);try with_reducible rfl));try simp only [Act.put,List.getElem_toArray,List.getElem_cons_succ,List.getElem_cons_zero,List.setIfInBounds_toArray,List.set_cons_zero,List.set_cons_succ]); ((refine wH 6 (v:=?_) rfl (by kernel_rfl) (fun _ _ _ h => h) (by rfl) ?_ (by assumption) ?_;rotate_left;next => ((intro X hX;(try dsimp only at hX);go_simp);try with_reducible rfl));try simp only [Act.put,List.getElem_toArray,List.getElem_cons_succ,List.getElem_cons_zero,List.setIfInBounds_toArray,List.set_cons_zero,List.set_cons_succ]); ((refine wH 7 (v:=?_) rfl (by kernel_rfl) (fun _ _ _ h => h) (by rfl) ?_ (by assumption) ?_;rotate_left;next => ((intro X hX;(try dsimp only at hX);go_simp);try with_reducible rfl));try simp only [Act.put,List.getElem_toArray,List.getElem_cons_succ,List.getElem_cons_zero,List.setIfInBounds_toArray,List.set_cons_zero,List.set_cons_succ]); ((refine wH 8 (v:=?_) rfl (by kernel_rfl) (fun _ _ _ h => h) (by rfl) ?_ (by assumption) ?_;rotate_left;next => ((intro X hX;(try dsimp only at hX);go_simp);try with_reducible rfl));try simp only [Act.put,List.getElem_toArray,List.getElem_cons_succ,List.getElem_cons_zero,List.setIfInBounds_toArray,List.set_cons_zero,List.set_cons_succ]))
       (refine wpAnyH_ready (rs := [9]) (by kernel_rfl) (by simp) ?_; refine AllReadyH.cons rfl (fun K hK => ?_) AllReadyH.nil)
       go_simp
       refine hK.out _ _ (hkeep.out _ (by repeat first|with_reducible (first|exact Below.refl _ _|exact s_0|refine below_al ?_ _|refine below_dr ?_ _|refine below_d1 ?_)|(with_reducible refine Below.setCell ?_ ?_ _;rotate_left;next => first|(simp;done)|(simp;omega)|omega))) (fun hHeld => ?_)
       clear hK K
       (((refine wH 10 (v:=?_) rfl (by kernel_rfl) (fun _ _ _ h => h) (by rfl) ?_ (by assumption) ?_;rotate_left;next => ((intro X hX;(try dsimp only at hX);go_simp);try with_reducible rfl));try simp only [Act.put,List.getElem_toArray,List.getElem_cons_succ,List.getElem_cons_zero,List.setIfInBounds_toArray,List.set_cons_zero,List.set_cons_succ]))
       (refine wpAnyH_ready (rs := [11]) (by kernel_rfl) (by simp) ?_; refine AllReadyH.cons rfl (fun K hK => ?_) AllReadyH.nil)
       go_simp
       refine hK.out _ _ (hkeep.out _ (by repeat first|with_reducible (first|exact Below.refl _ _|exact s_0|refine below_al ?_ _|refine below_dr ?_ _|refine below_d1 ?_)|(with_reducible refine Below.setCell ?_ ?_ _;rotate_left;next => first|(simp;done)|(simp;omega)|omega))) (fun hHeld => ?_)
       clear hK K
       refine wpAnyH_done (by kernel_rfl) ?_ _
       clear hHeld
       go_upto_region 17 with (fail)
       obtain ⟨gb, hgb⟩ : ∃ gb, gb = wr.heap.size := ⟨_, rfl⟩
       obtain ⟨Y1, eY⟩ : ∃ Y1 : World, Y1 = (wr.alloc (.cells #[.string gr.Name, .bool gr.Over, .bool gr.Fail, .string gr.Text, .int .i64 gr.At, .int .i64 gr.Visits, .slice Ag gr.Texts.length cg] 84)).drew := ⟨_, rfl⟩
       rw [← eY, ← hgb]
       have hbY := Asd.mk (show Below wr.heap.size wr Y1 from eY ▸ by repeat first|with_reducible (first|exact Below.refl _ _|exact Below.refl _ _|refine below_al ?_ _|refine below_dr ?_ _|refine below_d1 ?_)|(with_reducible refine Below.setCell ?_ ?_ _;rotate_left;next => first|(simp;done)|(simp;omega)|omega))
       have z5 : Y1.cell? ⟨gb, 5, none⟩ = some (.int .i64 gr.Visits) := by rw [eY, hgb]; go_simp
       have z1 : Y1.cell? ⟨gb, 1, none⟩ = some (.bool gr.Over) := by rw [eY, hgb]; go_simp
       have y5' := cell_below hbY.out y5
       clear eY hgb y5 hkeep hlr hlg s_0
       have hRk := hI2.out.ok x.r hrm.out
       have hV0 := hRk.vis0
       have hV1 := hRk.vis1
       have hcd : Asd (goCond s.Runs x.r = ((decide (x.r.Visits < gr.Visits) && decide (x.r.Visits < 20)) || (x.r.Visits == 20 && gr.Visits == 20 && gr.Over))) := Asd.mk (by
        unfold goCond; rw [(runOf_some hr.out).2, hgr])
       clear hRk
       go_cut [92] (fun s92 wx => s92 = .bool (goCond s.Runs x.r) ∧ Below Y1.heap.size Y1 wx)
       case first =>
        have hc2 := hcd.out
        obtain ⟨vx, hvx⟩ : ∃ vx, x.r.Visits = vx := ⟨_, rfl⟩
        obtain ⟨vg, hvg⟩ : ∃ vg, gr.Visits = vg := ⟨_, rfl⟩
        obtain ⟨og, hog⟩ : ∃ og, gr.Over = og := ⟨_, rfl⟩
        rw [hvx] at y5' hV1 hc2
        rw [hvg] at z5 hc2
        rw [hog] at z1 hc2
        replace hc2 := Asd.mk hc2
        clear hV0 hcd
        by_cases p3 : vx = 20
        ·subst p3
         by_cases p4 : vg = 20
         ·subst p4
          cases og
          ·go_quiet (fail)
           go_wp2
           go_meet
           exact ⟨by rw [hc2.out]; simp, by repeat first|with_reducible (first|exact Below.refl _ _|exact Below.refl _ _|refine below_al ?_ _|refine below_dr ?_ _|refine below_d1 ?_)|(with_reducible refine Below.setCell ?_ ?_ _;rotate_left;next => first|(simp;done)|(simp;omega)|omega)⟩
          ·go_quiet (fail)
           go_wp2
           go_meet
           exact ⟨by rw [hc2.out]; simp, by repeat first|with_reducible (first|exact Below.refl _ _|exact Below.refl _ _|refine below_al ?_ _|refine below_dr ?_ _|refine below_d1 ?_)|(with_reducible refine Below.setCell ?_ ?_ _;rotate_left;next => first|(simp;done)|(simp;omega)|omega)⟩
         ·have p4b : (vg == 20) = false := by simp [p4]
          by_cases p1 : (20 : Int) < vg
          ·go_quiet (fail)
           go_wp2
           go_meet
           exact ⟨by rw [hc2.out]; simp [p4], by repeat first|with_reducible (first|exact Below.refl _ _|exact Below.refl _ _|refine below_al ?_ _|refine below_dr ?_ _|refine below_d1 ?_)|(with_reducible refine Below.setCell ?_ ?_ _;rotate_left;next => first|(simp;done)|(simp;omega)|omega)⟩
          ·go_quiet (fail)
           go_wp2
           go_meet
           exact ⟨by rw [hc2.out]; simp [p4], by repeat first|with_reducible (first|exact Below.refl _ _|exact Below.refl _ _|refine below_al ?_ _|refine below_dr ?_ _|refine below_d1 ?_)|(with_reducible refine Below.setCell ?_ ?_ _;rotate_left;next => first|(simp;done)|(simp;omega)|omega)⟩
        ·have p3b : (vx == 20) = false := by simp [p3]
         have p2 : vx < 20 := by omega
         by_cases p1 : vx < vg
         ·go_quiet (fail)
          go_wp2
          go_meet
          exact ⟨by rw [hc2.out]; simp [p1, p2], by repeat first|with_reducible (first|exact Below.refl _ _|exact Below.refl _ _|refine below_al ?_ _|refine below_dr ?_ _|refine below_d1 ?_)|(with_reducible refine Below.setCell ?_ ?_ _;rotate_left;next => first|(simp;done)|(simp;omega)|omega)⟩
         ·go_quiet (fail)
          go_wp2
          go_meet
          exact ⟨by rw [hc2.out, decide_eq_false (show ¬vx < vg by omega), p3b]; simp, by repeat first|with_reducible (first|exact Below.refl _ _|exact Below.refl _ _|refine below_al ?_ _|refine below_dr ?_ _|refine below_d1 ?_)|(with_reducible refine Below.setCell ?_ ?_ _;rotate_left;next => first|(simp;done)|(simp;omega)|omega)⟩
       case rest =>
        obtain ⟨rfl, hbc⟩ := hcut
        have hbw := Asd.mk (below_st hbY.out hbc)
        have hfw := Asd.mk (hf2.out.trans (MFr.of_below hbw.out))
        have hgl2 : 3 < Vb.heap.size := Nat.lt_of_lt_of_le hgl HWr.out.size
        have hgt2 : wc.cell? ⟨3, 15, none⟩ = some (.int .u8 4) := (cell_below (show Below w.heap.size w wc from ((HWr.out.trans (hby.out.mono HWr.out.size)).trans (hbw.out.mono (Nat.le_trans HWr.out.size hby.out.size)))) hgt)
        clear hbc y5' z5 z1 hcd
        cases hc : goCond s.Runs x.r with
        | true =>
         go_wp2_with fail
         refine (do_calls q x.r _ (hE3.out.later hbw.out) hr.out q1 hI2.out hrd.out hgl2 hgt2).mono ?_
         rintro e' w9 ⟨rfl, hP⟩
         have hP9 := Asd.mk (EngP.trans hfw.out hs2.out hP)
         clear hP
         go_wp2
         go_roundw
         case rel => exact ⟨j + 1, by omega, by go_num, by rw [hyes.out hc], by rw [hyes.out hc, hR2]; exact hP9.out⟩
         case measure => simp [intOf]; omega
        | false =>
         go_wp2
         go_roundw
         case rel => exact ⟨j + 1, by omega, by go_num, by rw [hno.out hc, hmv], by rw [hno.out hc, hR2]; exact ⟨F2, hE3.out.later hbw.out, hfw.out, hs2.out⟩⟩
         case measure => simp [intOf]; omega
      ·obtain rfl : j = (readyL W R).length := by omega
       rw [swK_end] at hE2 ⊢
       have hby := Asd.mk (MFr.upon hf2 hb5.out (by omega) (hE'.out.above))
       have hE3 := Asd.mk hE2
       obtain ⟨mv2, hmv⟩ : ∃ mv2, (sweep W (goCond s.Runs) R).2 = mv2 := ⟨_, rfl⟩
       obtain ⟨R2, hR2⟩ : ∃ R2, (sweep W (goCond s.Runs) R).1 = R2 := ⟨_, rfl⟩
       have hB2 := hB.out.sweep q1
       have hlt2 := btM_lt (c := goCond s.Runs) q1 hB.out.reach
       rw [hR2, hmv] at hB2 hlt2
       rw [hR2] at hE3
       rw [hmv]
       replace hB2 := Asd.mk hB2
       clear hE2 hf2 hs2 hmv hR2
       go_wp2
       go_roundg (btM W R2 mv2)
       case measure => omega
       case rel => exact ⟨mv2, R2, F2, rfl, hB2.out, hE3.out, hby.out, Nat.le_refl _⟩
end Go.Proofs.YtkpkfihaihoaeaaGreatDoor.M
end
section
set_option linter.unusedVariables false
set_option linter.unusedSimpArgs false
namespace Go.Proofs.YtkpkfihaihoaeaaGreatDoor.M
open Go.RowKit
theorem valid_comeS {W : Web} {s : State} (hw : checkWeb W = 0) (hr : rootsOk s.Roots = true) : validS W s = eqB (⟨s.Roots, comeToS W s⟩ : State) s := by
 rw [validS_spec, hr, decide_eq_true hw]
 simp only [Bool.true_and, eqB]
 rw [decide_eq_decide]
 constructor
 ·intro h; rw [h]
 ·intro h; exact congrArg State.Runs h
theorem goCondS_none {S : List Run} {r : Run} (h : runOf S r.Name = none) : goCondS S r = false := by unfold goCondS; rw [h]
theorem goCondS_some {S : List Run} {r g : Run} (h : runOf S r.Name = some g) : goCondS S r = !(decide (r.Visits > g.Visits) || (r.Visits == g.Visits && (!g.Over || decide (r.Visits < 20)))) := by unfold goCondS; rw [h]
set_option maxRecDepth 100000 in
set_option maxHeartbeats 8000000 in
theorem sValidState_calls {tN tS tC t : Nat} (W : Web) (s : State) (w : World) {vs us : List Value} (hW : reps w (W.c tN tS tC) vs) (h : reps w (State.c t s) us) (hz : W.Sm) :
  Calls Tryz.prog 17 #[.agg vs.toArray, .agg us.toArray] w fun e w' => e = .returned (.bool (validS W s)) ∧ Below w.heap.size w w' := by
 have hW0 := Asd.mk hW
 obtain ⟨v0, rfl, h0⟩ := Web.ropen hW
 obtain ⟨A, c, rfl, _, _⟩ := rep_len h0
 obtain ⟨u0, u1, rfl, g0, g1⟩ := State.ropen h
 obtain ⟨D, k, rfl, _, _⟩ := rep_len g0
 obtain ⟨B, d, rfl, _, _⟩ := rep_len g1
 replace h0 := Asd.mk h0
 replace g0 := Asd.mk g0
 replace g1 := Asd.mk g1
 replace h := Asd.mk h
 clear hW
 have HB := Asd.mk (below_al (below_al (Below.refl w.heap.size w) (.cells #[.slice A W.Nodes.length c] 34)) (.cells #[.slice D s.Roots.length k, .slice B s.Runs.length d] 38))
 by_cases q1 : checkWeb W = 0
 rotate_left
 ·have e1 := Asd.mk (valid_web (s := s) q1)
  obtain ⟨n, hn⟩ : ∃ n, checkWeb W = n := ⟨_, rfl⟩
  have q2 : decide (n = 0) = false := by simp [← hn, q1]
  go_enter Tryz.func17, Tryz.ntmps17
  go_wp2_with fail
  refine (sCheckWeb_calls W _ (Web.rmk W (h0.out.below HB.out)) hz).mono ?_
  rintro e w1 ⟨rfl, hb⟩
  rw [hn]
  replace q1 : n ≠ 0 := hn ▸ q1
  clear hn
  have HW := Asd.mk (below_st HB.out hb)
  clear hb
  go_wp2
  go_ret
  exact ⟨by rw [e1.out]; rfl, by repeat first|with_reducible (first|exact Below.refl _ _|exact HW.out|refine below_al ?_ _|refine below_dr ?_ _|refine below_d1 ?_)|(with_reducible refine Below.setCell ?_ ?_ _;rotate_left;next => first|(simp;done)|(simp;omega)|omega)⟩
 by_cases q2 : rootsOk s.Roots = true
 rotate_left
 ·replace q2 := Bool.eq_false_iff.2 q2
  have e1 := Asd.mk (valid_roots (W := W) q2)
  go_enter Tryz.func17, Tryz.ntmps17
  go_wp2_with fail
  refine (sCheckWeb_calls W _ (Web.rmk W (h0.out.below HB.out)) hz).mono ?_
  rintro e w1 ⟨rfl, hb⟩
  rw [q1]
  obtain ⟨hcx, hfx⟩ := bcell hb
  have hzz : w.heap.size + 1 < w1.heap.size := by have := hb.size; simp at this; omega
  have HW := Asd.mk (below_st HB.out hb)
  clear hb
  go_wp2_with fail
  refine (l3RootsOk_calls s.Roots _ _ (g0.out.below HW.out)).mono ?_
  rw [q2]
  rintro e w2 ⟨rfl, hb⟩
  have HW2 := Asd.mk (below_st HW.out hb)
  clear hb
  go_wp2
  go_ret
  exact ⟨by rw [e1.out]; rfl, by repeat first|with_reducible (first|exact Below.refl _ _|exact HW2.out|refine below_al ?_ _|refine below_dr ?_ _|refine below_d1 ?_)|(with_reducible refine Below.setCell ?_ ?_ _;rotate_left;next => first|(simp;done)|(simp;omega)|omega)⟩
 obtain ⟨hwl, _, hA2, _⟩ := checkWeb_ok q1
 by_cases q3 : W.Nodes.length < s.Runs.length
 ·have e1 := Asd.mk (valid_len (s := s) q1 q3)
  go_enter Tryz.func17, Tryz.ntmps17
  go_wp2_with fail
  refine (sCheckWeb_calls W _ (Web.rmk W (h0.out.below HB.out)) hz).mono ?_
  rintro e w1 ⟨rfl, hb⟩
  rw [q1]
  obtain ⟨hcx, hfx⟩ := bcell hb
  have hzz : w.heap.size + 1 < w1.heap.size := by have := hb.size; simp at this; omega
  have HW := Asd.mk (below_st HB.out hb)
  have a0 : w1.cell? ⟨w.heap.size, 0, none⟩ = some (.slice A W.Nodes.length c) := by rw [hcx _ _ (by simp; omega)]; go_simp
  have b0 : w1.cell? ⟨w.heap.size + 1, 0, none⟩ = some (.slice D s.Roots.length k) := by rw [hcx _ _ (by simp)]; go_simp
  have b1 : w1.cell? ⟨w.heap.size + 1, 1, none⟩ = some (.slice B s.Runs.length d) := by rw [hcx _ _ (by simp)]; go_simp
  clear hb hcx hfx
  go_wp2_with fail
  refine (l3RootsOk_calls s.Roots _ _ (g0.out.below HW.out)).mono ?_
  rw [q2]
  rintro e w2 ⟨rfl, hb⟩
  replace a0 := cell_below hb a0
  replace b1 := cell_below hb b1
  have HW2 := Asd.mk (below_st HW.out hb)
  clear hb
  go_wp2
  go_ret
  exact ⟨by rw [e1.out]; rfl, by repeat first|with_reducible (first|exact Below.refl _ _|exact HW2.out|refine below_al ?_ _|refine below_dr ?_ _|refine below_d1 ?_)|(with_reducible refine Below.setCell ?_ ?_ _;rotate_left;next => first|(simp;done)|(simp;omega)|omega)⟩
 have hrl := rootsOk_le q2
 have hval := Asd.mk (valid_comeS q1 q2)
 have hst := Asd.mk (show startS W s.Roots = ⟨s.Roots, begin_ W s.Roots⟩ by rw [startS, if_pos ⟨q1, q2⟩])
 go_enter Tryz.func17, Tryz.ntmps17
 go_wp2_with fail
 refine (sCheckWeb_calls W _ (Web.rmk W (h0.out.below HB.out)) hz).mono ?_
 rintro e w1 ⟨rfl, hb⟩
 rw [q1]
 obtain ⟨hcx, hfx⟩ := bcell hb
 have hzz : w.heap.size + 1 < w1.heap.size := by have := hb.size; simp at this; omega
 have HW := Asd.mk (below_st HB.out hb)
 have a0 : w1.cell? ⟨w.heap.size, 0, none⟩ = some (.slice A W.Nodes.length c) := by rw [hcx _ _ (by simp; omega)]; go_simp
 have b0 : w1.cell? ⟨w.heap.size + 1, 0, none⟩ = some (.slice D s.Roots.length k) := by rw [hcx _ _ (by simp)]; go_simp
 have b1 : w1.cell? ⟨w.heap.size + 1, 1, none⟩ = some (.slice B s.Runs.length d) := by rw [hcx _ _ (by simp)]; go_simp
 clear hb hcx hfx
 go_wp2_with fail
 refine (l3RootsOk_calls s.Roots _ _ (g0.out.below HW.out)).mono ?_
 rw [q2]
 rintro e w2 ⟨rfl, hb⟩
 have HW2 := Asd.mk (below_st HW.out hb)
 replace a0 := cell_below hb a0
 replace b0 := cell_below hb b0
 replace b1 := cell_below hb b1
 have hzz2 : w.heap.size + 1 < w2.heap.size := by have := hb.size; omega
 clear hb
 go_wp2_with fail
 refine (sStart_calls W s.Roots _ _ (Web.rmk W (h0.out.below HW2.out)) (g0.out.below HW2.out) hz).mono ?_
 rw [hst.out]
 rintro e w3 ⟨y0, y1, rfl, hs, hb⟩
 obtain ⟨_, _, he, p0, p1⟩ := State.ropen hs.reps
 obtain ⟨A8, d8, rfl, _, _⟩ := rep_len p0
 obtain ⟨B8, e8, rfl, _, _⟩ := rep_len p1
 cases he
 have HW3 := Asd.mk (below_st HW2.out hb)
 replace a0 := cell_below hb a0
 replace b0 := cell_below hb b0
 replace b1 := cell_below hb b1
 have hzz3 : w.heap.size + 1 < w3.heap.size := by have := hb.size; omega
 have hs3 := Asd.mk hs.reps
 clear hb hs p0 p1
 go_upto_region 4 with (fail)
 obtain ⟨xb, hxb⟩ : ∃ xb, xb = w3.heap.size := ⟨_, rfl⟩
 obtain ⟨X, eX⟩ : ∃ X : World, X = w3.alloc (.cells #[.slice A8 s.Roots.length d8, .slice B8 (begin_ W s.Roots).length e8] 38) := ⟨_, rfl⟩
 rw [← eX, ← hxb]
 have gX := Asd.mk (show X.heap[xb]? = _ from hxb ▸ eX ▸ heap_alloc_new _ _)
 have hb3X : Below w3.heap.size w3 X := eX ▸ by repeat first|with_reducible (first|exact Below.refl _ _|exact Below.refl _ _|refine below_al ?_ _|refine below_dr ?_ _|refine below_d1 ?_)|(with_reducible refine Below.setCell ?_ ?_ _;rotate_left;next => first|(simp;done)|(simp;omega)|omega)
 have hsX := Asd.mk (repsS.of (Z := [xb]) hs3.out hb3X (fun b hb => by simp at hb; omega))
 have hbX := Asd.mk (below_st HW3.out hb3X)
 have hB0 := Asd.mk hb3X
 have zxb : w.heap.size + 1 < xb := by omega
 have zX : xb < X.heap.size := lt_of_heap gX.out
 have zx3 : w3.heap.size ≤ xb := by omega
 clear eX hxb hb3X hs3 hbX
 go_wp2
 go_loopg [6] (mu W (begin_ W s.Roots) + 1) (fun kx s6 wx => ∃ (mv : Bool) (R : List Run) (v0 v1 : Value), s6 = .bool mv ∧ BtS W s.Roots (goCondS s.Runs) (comeToS W s) R mv ∧ wx.heap[xb]? = some (.cells #[v0, v1] 38 (0, 0)) ∧ repsS [xb] wx (State.c 84 ⟨s.Roots, R⟩) [v0, v1] ∧ Below w3.heap.size w3 wx ∧ btM W R mv ≤ kx)
 case atStart => exact ⟨true, _, _, _, rfl, BtS.start _ _ _, gX.out, hsX.out, hB0.out, Nat.le_refl _⟩
 case round =>
  obtain ⟨mv, R, v0, v1, rfl, hB, gx, hsx, hb', hkx⟩ := hrel
  obtain ⟨_, _, he, p0, p1⟩ := State.ropen hsx.reps
  obtain ⟨A1, d1, rfl, _, _⟩ := rep_len p0
  obtain ⟨B1, e1, rfl, _, _⟩ := rep_len p1
  cases he
  have x0 := cellOf gx (i := 0) rfl
  have x1 := cellOf gx (i := 1) rfl
  have a0r := cell_below hb' a0
  have b0r := cell_below hb' b0
  have b1r := cell_below hb' b1
  have hzr := hb'.size
  have zxr : xb < wr.heap.size := lt_of_heap gx
  have hbw := Asd.mk (HW3.out.trans (hb'.mono HW3.out.size))
  cases mv with
  | false =>
   have hR := hB.off rfl
   have hval2 := Asd.mk (show validS W s = eqB (⟨s.Roots, R⟩ : State) s by rw [hval.out, hR])
   have hr6 := Asd.mk hsx.reps
   clear hB hR gx hsx p0 p1 hkx
   go_wp2_with fail
   refine (l4Same_calls ⟨s.Roots, R⟩ s _ hr6.out (h.out.below hbw.out)).mono ?_
   rintro e' w7 ⟨rfl, hb7⟩
   have hb7w := Asd.mk (hbw.out.trans (hb7.mono hbw.out.size))
   clear hb7
   go_wp2
   go_ret
   exact ⟨by rw [hval2.out]; rfl, hb7w.out⟩
  | true =>
   have hInv := Asd.mk (hB.reach.inv q1)
   replace hB := Asd.mk hB
   replace hb' := Asd.mk hb'
   have hrs := Asd.mk hsx.reps
   replace hsx := Asd.mk hsx
   replace gx := Asd.mk gx
   clear p0 p1
   go_wp2_with fail
   refine (l4Ready_calls W ⟨s.Roots, R⟩ _ (hW0.out.below hbw.out) hrs.out q1 hInv.out).mono ?_
   rintro e' w5 ⟨v5, rfl, ⟨Fl, ol, nl, ll⟩, hb5⟩
   obtain ⟨Al, cl, rfl, _, _⟩ := own_slice ol
   have hl5 := Asd.mk (show repS [xb] w5 (strsT 9 (readyL W R)) (.slice Al (readyL W R).length cl) from repS.of_own ol (fun b hb hb' => by have := ll b hb; simp at hb'; omega))
   have g5 := Asd.mk ((hb5.block xb zxr).trans gx.out)
   have hs5 := Asd.mk (hsx.out.later hb5)
   have hb5w := Asd.mk (show Below w3.heap.size w3 w5 from below_st hb'.out hb5)
   have hrlen := readyL_len q1 hB.out.reach
   clear nl ll ol hb5 x0 x1 a0r b0r b1r
   go_wp2
   go_loopw [6, 8] (fun s6 i wy => ∃ (j : Nat) (v0 v1 : Value), j ≤ (readyL W R).length ∧ i = .int .i64 j ∧ s6 = .bool (swK W (goCondS s.Runs) R j).2 ∧ wy.heap[xb]? = some (.cells #[v0, v1] 38 (0, 0)) ∧ repsS [xb] wy (State.c 84 ⟨s.Roots, (swK W (goCondS s.Runs) R j).1⟩) [v0, v1] ∧ MFr [xb] w5 wy) (fun _ i _ => (readyL W R).length - (intOf i).toNat)
   case atStart => exact ⟨0, _, _, by omega, rfl, by rw [swK_zero], g5.out, by rw [swK_zero]; exact hs5.out, MFr.refl _ _⟩
   case round =>
    obtain ⟨j, v0, v1, hj, rfl, rfl, gx2, hsx2, hf2⟩ := hrel
    obtain ⟨_, _, he, p0, p1⟩ := State.ropen hsx2.reps
    obtain ⟨A2, d2, rfl, _, _⟩ := rep_len p0
    obtain ⟨B2, e2, rfl, _, _⟩ := rep_len p1
    cases he
    have hby := Asd.mk (MFr.upon hf2 hb5w.out (Nat.le_refl _) (fun b hb => by simp at hb; omega))
    by_cases hlt : j < (readyL W R).length
    ·obtain ⟨al, c', he, hcell⟩ := str_elem (hl5.out wr hf2) hlt
     cases he
     obtain ⟨r, hr, hrd, hrm⟩ := swK_next (c := goCondS s.Runs) q1 hB.out.reach hlt
     have hI2 := Asd.mk ((swK_ok (c := goCondS s.Runs) q1 hB.out.reach j (by omega)).reach.inv q1)
     obtain ⟨q, hq⟩ : ∃ q, (readyL W R)[j] = q := ⟨_, rfl⟩
     rw [hq] at hcell hr
     have hyes := Asd.mk (fun hc => swK_yes (c := goCondS s.Runs) hlt (by rw [hq]; exact hr) hc)
     have hno := Asd.mk (fun hc => swK_no (c := goCondS s.Runs) hlt (by rw [hq]; exact hr) hc)
     obtain ⟨R2, hR2⟩ : ∃ R2, (swK W (goCondS s.Runs) R j).1 = R2 := ⟨_, rfl⟩
     obtain ⟨mv2, hmv⟩ : ∃ mv2, (swK W (goCondS s.Runs) R j).2 = mv2 := ⟨_, rfl⟩
     rw [hR2] at hr hrd hI2 hrm hsx2 gx2 p1
     rw [hmv]
     replace hR2 := Asd.mk hR2
     replace hmv := Asd.mk hmv
     replace hq := Asd.mk hq
     have x0 := cellOf gx2 (i := 0) rfl
     have x1 := cellOf gx2 (i := 1) rfl
     have a0r := cell_below hby.out a0
     have b0r := cell_below hby.out b0
     have b1r := cell_below hby.out b1
     have hzy := hby.out.size
     have zxy : xb < wr.heap.size := lt_of_heap gx2
     have hbw2 := Asd.mk (HW3.out.trans (hby.out.mono HW3.out.size))
     have hr2 := Asd.mk hsx2.reps
     replace hsx2 := Asd.mk hsx2
     replace gx2 := Asd.mk gx2
     replace hf2 := Asd.mk hf2
     replace hr := Asd.mk hr
     replace hrd := Asd.mk hrd
     obtain ⟨tq, htq⟩ : ∃ tq, atR s.Runs q = tq := ⟨_, rfl⟩
     replace htq := Asd.mk htq
     clear p0 p1
     go_upto_region 11 with (fail)
     go_still_tail 5, (by kernel_rfl)
     change wpList _ _ _ _ _ wr.drew
     go_wp2_with fail
     refine (l4At_calls s q _ (h.out.below (hbw2.out.trans ((show Below wr.heap.size wr _ from by repeat first|with_reducible (first|exact Below.refl _ _|exact Below.refl _ _|refine below_al ?_ _|refine below_dr ?_ _|refine below_d1 ?_)|(with_reducible refine Below.setCell ?_ ?_ _;rotate_left;next => first|(simp;done)|(simp;omega)|omega)).mono hbw2.out.size)))).mono ?_
     rw [htq.out]
     rintro e' w6 ⟨rfl, hb⟩
     have hb6 := Asd.mk (below_st (show Below wr.heap.size wr _ from by repeat first|with_reducible (first|exact Below.refl _ _|exact Below.refl _ _|refine below_al ?_ _|refine below_dr ?_ _|refine below_d1 ?_)|(with_reducible refine Below.setCell ?_ ?_ _;rotate_left;next => first|(simp;done)|(simp;omega)|omega)) hb)
     obtain ⟨ir, hir, hMr, hri⟩ := atR_some hr.out
     obtain ⟨ax, cx, v6, he, k0, k1, k2, k3, k4, k5, k6, hk6, hkr⟩ := Run.elem (show rep wr (RunsT 84 R2) (.slice B2 R2.length e2) from by obtain ⟨_, _, he, _, p1⟩ := State.ropen hr2.out; cases he; exact p1) hir
     cases he
     rw [hri] at k0 k1 k2 k3 k4 k5 hk6 hkr
     obtain ⟨Er, er, rfl, _, _⟩ := rep_len hk6
     replace hMr := Asd.mk hMr
     replace hri := Asd.mk hri
     have hzi : (ir : Int) < (R2.length : Int) := by omega
     clear hb hk6 hkr
     have hkeep := Asd.mk (show ∀ Y, Below wr.heap.size wr Y → (Below wr.heap.size wr Y ∧ Y.cell? ⟨xb, 0, none⟩ = some (.slice A2 s.Roots.length d2) ∧ Y.cell? ⟨xb, 1, none⟩ = some (.slice (some ax) R2.length e2) ∧ Y.cell? (al.add j) = some (.string q) ∧ Y.cell? (ax.add (ir * 7)) = some (.string r.Name) ∧ Y.cell? ⟨(ax.add (ir * 7)).block, (ax.add (ir * 7)).off + 1, none⟩ = some (.bool r.Over) ∧ Y.cell? ⟨(ax.add (ir * 7)).block, (ax.add (ir * 7)).off + 2, none⟩ = some (.bool r.Fail) ∧ Y.cell? ⟨(ax.add (ir * 7)).block, (ax.add (ir * 7)).off + 3, none⟩ = some (.string r.Text) ∧ Y.cell? ⟨(ax.add (ir * 7)).block, (ax.add (ir * 7)).off + 4, none⟩ = some (.int .i64 r.At) ∧ Y.cell? ⟨(ax.add (ir * 7)).block, (ax.add (ir * 7)).off + 5, none⟩ = some (.int .i64 r.Visits) ∧ Y.cell? ⟨(ax.add (ir * 7)).block, (ax.add (ir * 7)).off + 6, none⟩ = some (.slice Er r.Texts.length er))
      from fun Y hb => ⟨hb, cell_below hb x0, cell_below hb x1, cell_below hb hcell, cell_below hb k0, cell_below hb k1, cell_below hb k2, cell_below hb k3, cell_below hb k4, cell_below hb k5, cell_below hb k6⟩)
     go_upto_region 12 with (fail)
     go_cut [10] (fun s10 wx => ∃ fb tv, s10 = .pointer (some ⟨fb, 0, none⟩) ∧ wr.heap.size ≤ fb ∧ wx.heap[fb]? = some (.cells (runCells r tv) 84 (0, 0)) ∧ Below wr.heap.size wr wx)
     case first =>
      have s_0 : Below wr.heap.size wr w6.drew := below_st hb6.out (by repeat first|with_reducible (first|exact Below.refl _ _|exact Below.refl _ _|refine below_al ?_ _|refine below_dr ?_ _|refine below_d1 ?_)|(with_reducible refine Below.setCell ?_ ?_ _;rotate_left;next => first|(simp;done)|(simp;omega)|omega))
      have hz6 := hb6.out.size
      go_region_held3 (fun Y => Below wr.heap.size wr Y ∧ Y.cell? ⟨xb, 0, none⟩ = some (.slice A2 s.Roots.length d2) ∧ Y.cell? ⟨xb, 1, none⟩ = some (.slice (some ax) R2.length e2) ∧ Y.cell? (al.add j) = some (.string q) ∧ Y.cell? (ax.add (ir * 7)) = some (.string r.Name) ∧ Y.cell? ⟨(ax.add (ir * 7)).block, (ax.add (ir * 7)).off + 1, none⟩ = some (.bool r.Over) ∧ Y.cell? ⟨(ax.add (ir * 7)).block, (ax.add (ir * 7)).off + 2, none⟩ = some (.bool r.Fail) ∧ Y.cell? ⟨(ax.add (ir * 7)).block, (ax.add (ir * 7)).off + 3, none⟩ = some (.string r.Text) ∧ Y.cell? ⟨(ax.add (ir * 7)).block, (ax.add (ir * 7)).off + 4, none⟩ = some (.int .i64 r.At) ∧ Y.cell? ⟨(ax.add (ir * 7)).block, (ax.add (ir * 7)).off + 5, none⟩ = some (.int .i64 r.Visits) ∧ Y.cell? ⟨(ax.add (ir * 7)).block, (ax.add (ir * 7)).off + 6, none⟩ = some (.slice Er r.Texts.length er)) ((refine hkeep.out _ ?_; (repeat first|with_reducible (first|exact Below.refl _ _|exact s_0|exact hb6.out|refine below_al ?_ _|refine below_dr ?_ _|refine below_d1 ?_)|(with_reducible refine Below.setCell ?_ ?_ _;rotate_left;next => first|(simp;done)|(simp;omega)|omega))))
       (first | (go_at_call 71; refine (l4At_calls ⟨s.Roots, R2⟩ q _ (hr2.out.below (show Below wr.heap.size wr _ from by (repeat first|with_reducible (first|exact Below.refl _ _|exact s_0|exact hb6.out|refine below_al ?_ _|refine below_dr ?_ _|refine below_d1 ?_)|(with_reducible refine Below.setCell ?_ ?_ _;rotate_left;next => first|(simp;done)|(simp;omega)|omega))))).mono ?_; rw [hMr.out]; rintro e' w7 ⟨rfl, hb⟩; obtain ⟨s_0, s_1, s_2, s_3, s_4, s_5, s_6, s_7, s_8, s_9, s_10⟩ := hkeep.out _ (below_st (show Below wr.heap.size wr _ from by (repeat first|with_reducible (first|exact Below.refl _ _|exact s_0|exact hb6.out|refine below_al ?_ _|refine below_dr ?_ _|refine below_d1 ?_)|(with_reducible refine Below.setCell ?_ ?_ _;rotate_left;next => first|(simp;done)|(simp;omega)|omega))) hb); obtain ⟨hcx, hfx⟩ := bcell hb; replace hb := Asd.mk hb))
      all_goals (go_wp2_with fail; go_meet)
      ·exact ⟨_, .slice Er r.Texts.length er, rfl, s_0.size, heap_alloc_new _ _, by repeat first|with_reducible (first|exact Below.refl _ _|exact s_0|refine below_al ?_ _|refine below_dr ?_ _|refine below_d1 ?_)|(with_reducible refine Below.setCell ?_ ?_ _;rotate_left;next => first|(simp;done)|(simp;omega)|omega)⟩
      ·refine ⟨_, .slice Er r.Texts.length er, rfl, hz6, ?_, by repeat first|with_reducible (first|exact Below.refl _ _|exact s_0|refine below_al ?_ _|refine below_dr ?_ _|refine below_d1 ?_)|(with_reducible refine Below.setCell ?_ ?_ _;rotate_left;next => first|(simp;done)|(simp;omega)|omega)⟩
       exact heap_set1 (heap_set1 (heap_set1 (heap_set1 (heap_set1 (heap_set1 (heap_set1 ((hb.out.block _ (by simp)).trans (heap_alloc_new _ _)) 0 _) 1 _) 2 _) 3 _) 4 _) 5 _) 6 _
     case rest =>
      obtain ⟨fb, tv, rfl, zfb, gF, hbc⟩ := hcut
      obtain ⟨Z, eZ⟩ : ∃ Z, Z = wc := ⟨_, rfl⟩
      rw [← eZ] at gF hbc ⊢
      clear eZ wc hkeep k0 k1 k2 k3 k4 k5 k6
      have f5 : Z.cell? ⟨fb, 5, none⟩ = some (.int .i64 r.Visits) := cellOf gF (i := 5) rfl
      have b1z := cell_below hbc b1r
      have hbZ := Asd.mk hbc
      have hV0 := (hI2.out.ok r (runOf_some hr.out).1).vis0
      have hV1 := (hI2.out.ok r (runOf_some hr.out).1).vis1
      have hrq := Asd.mk (runOf_some hr.out).2
      clear hbc gF
      go_upto_region 13 with (fail)
      go_cut [96] (fun s96 wx => s96 = .bool (!(goCondS s.Runs r)) ∧ Below Z.heap.size Z wx)
      case first =>
       obtain ⟨vx, hvx⟩ : ∃ vx, r.Visits = vx := ⟨_, rfl⟩
       cases hg : runOf s.Runs q with
       | none =>
        have e1 := Asd.mk (goCondS_none (S := s.Runs) (r := r) (by rw [hrq.out]; exact hg))
        have ht : tq = -1 := by rw [← htq.out]; exact atR_none hg
        subst ht
        go_quiet (fail)
        go_wp2
        go_meet
        exact ⟨by rw [e1.out]; rfl, by repeat first|with_reducible (first|exact Below.refl _ _|exact Below.refl _ _|refine below_al ?_ _|refine below_dr ?_ _|refine below_d1 ?_)|(with_reducible refine Below.setCell ?_ ?_ _;rotate_left;next => first|(simp;done)|(simp;omega)|omega)⟩
       | some g =>
        have e1 := goCondS_some (S := s.Runs) (r := r) (g := g) (by rw [hrq.out]; exact hg)
        obtain ⟨i2, hi2, hM2, hg2⟩ := atR_some hg
        have ht : tq = (i2 : Int) := by rw [← htq.out]; exact hM2
        subst ht
        obtain ⟨as_, c9, v9, he, j0, j1, j2, j3, j4, j5, j6, _, _⟩ := Run.elem (g1.out.below (hbw2.out.trans (hbZ.out.mono hbw2.out.size))) hi2
        cases he
        rw [hg2] at j1 j5
        have hz9 : (i2 : Int) < (s.Runs.length : Int) := by omega
        have hz8 : decide ((i2 : Int) < 0) = false := by simp
        obtain ⟨vg, hvg⟩ : ∃ vg, g.Visits = vg := ⟨_, rfl⟩
        obtain ⟨og, hog⟩ : ∃ og, g.Over = og := ⟨_, rfl⟩
        rw [hvx] at f5 hV0 hV1 e1
        rw [hvg] at j5 e1
        rw [hog] at j1 e1
        replace e1 := Asd.mk e1
        clear j0 j2 j3 j4 j6 hg2 hM2 hvx hvg hog hg
        by_cases p1 : vg < vx
        ·have pb : (vx == vg) = false := by simp; omega
         go_quiet (fail)
         go_wp2
         go_meet
         exact ⟨by rw [e1.out]; simp [p1], by repeat first|with_reducible (first|exact Below.refl _ _|exact Below.refl _ _|refine below_al ?_ _|refine below_dr ?_ _|refine below_d1 ?_)|(with_reducible refine Below.setCell ?_ ?_ _;rotate_left;next => first|(simp;done)|(simp;omega)|omega)⟩
        ·by_cases p2 : vx = vg
         ·subst p2
          cases og with
          | false =>
           go_quiet (fail)
           go_wp2
           go_meet
           exact ⟨by rw [e1.out]; simp, by repeat first|with_reducible (first|exact Below.refl _ _|exact Below.refl _ _|refine below_al ?_ _|refine below_dr ?_ _|refine below_d1 ?_)|(with_reducible refine Below.setCell ?_ ?_ _;rotate_left;next => first|(simp;done)|(simp;omega)|omega)⟩
          | true =>
           by_cases p3 : vx < 20
           ·go_quiet (fail)
            go_wp2
            go_meet
            exact ⟨by rw [e1.out]; simp [p3], by repeat first|with_reducible (first|exact Below.refl _ _|exact Below.refl _ _|refine below_al ?_ _|refine below_dr ?_ _|refine below_d1 ?_)|(with_reducible refine Below.setCell ?_ ?_ _;rotate_left;next => first|(simp;done)|(simp;omega)|omega)⟩
           ·go_quiet (fail)
            go_wp2
            go_meet
            exact ⟨by rw [e1.out, decide_eq_false (show ¬vx < 20 by omega)]; simp, by repeat first|with_reducible (first|exact Below.refl _ _|exact Below.refl _ _|refine below_al ?_ _|refine below_dr ?_ _|refine below_d1 ?_)|(with_reducible refine Below.setCell ?_ ?_ _;rotate_left;next => first|(simp;done)|(simp;omega)|omega)⟩
         ·have pb : (vx == vg) = false := by simp [p2]
          go_quiet (fail)
          go_wp2
          go_meet
          exact ⟨by rw [e1.out, pb, decide_eq_false (show ¬vx > vg by omega)]; simp, by repeat first|with_reducible (first|exact Below.refl _ _|exact Below.refl _ _|refine below_al ?_ _|refine below_dr ?_ _|refine below_d1 ?_)|(with_reducible refine Below.setCell ?_ ?_ _;rotate_left;next => first|(simp;done)|(simp;omega)|omega)⟩
      case rest =>
       obtain ⟨rfl, hbc⟩ := hcut
       have hbV := Asd.mk (below_st hbZ.out hbc)
       have gxV := Asd.mk ((hbV.out.block xb zxy).trans gx2.out)
       have hsV := Asd.mk (hsx2.out.later hbV.out)
       have hfV := Asd.mk (hf2.out.trans (MFr.of_below hbV.out))
       obtain ⟨Vd, eV⟩ : ∃ Vd, Vd = wc := ⟨_, rfl⟩
       rw [← eV] at hbV gxV hsV hfV ⊢
       clear eV hbc wc f5 b1z hbZ
       cases hc : goCondS s.Runs r with
       | false =>
        rw [show (!false) = true from rfl]
        go_wp2
        go_roundw
        case rel => exact ⟨j + 1, _, _, by omega, by go_num, by rw [hno.out hc, hmv.out], gxV.out, by rw [hno.out hc, hR2.out]; exact hsV.out, hfV.out⟩
        case measure => simp [intOf]; omega
       | true =>
        rw [show (!true) = false from rfl]
        have z0 := cellOf gxV.out (i := 0) rfl
        have z1 := cellOf gxV.out (i := 1) rfl
        have a0v := cell_below hbV.out a0r
        have hcv := cell_below hbV.out hcell
        have zfx : ∀ o, Vd.frozen? ⟨xb, o, none⟩ = false := fun o => frozenOf gxV.out o
        have zxV : xb < Vd.heap.size := lt_of_heap gxV.out
        have zwV : w.heap.size ≠ xb := by omega
        go_upto_region 14 with (fail)
        refine wp_region_G (last := 7) (S := fun Y => Y.cell? ⟨w.heap.size, 0, none⟩ = some (.slice A W.Nodes.length c) ∧ Y.cell? ⟨xb, 0, none⟩ = some (.slice A2 s.Roots.length d2) ∧ Y.cell? ⟨xb, 1, none⟩ = some (.slice (some ax) R2.length e2) ∧ Y.cell? (al.add j) = some (.string q)) (by kernel_rfl) ?_
        have hH : Vd.drew.cell? ⟨w.heap.size, 0, none⟩ = some (.slice A W.Nodes.length c) ∧ Vd.drew.cell? ⟨xb, 0, none⟩ = some (.slice A2 s.Roots.length d2) ∧ Vd.drew.cell? ⟨xb, 1, none⟩ = some (.slice (some ax) R2.length e2) ∧ Vd.drew.cell? (al.add j) = some (.string q) := ⟨a0v, z0, z1, hcv⟩
        (((refine wG 0 (v:=?_) rfl rfl (by kernel_rfl) (fun _ _ _ h => h) (by rfl) ?_ (by assumption) ?_;rotate_left;next => ((intro X hX;(try dsimp only at hX);go_simp);try with_reducible rfl));try simp only [Act.put,List.getElem_toArray,List.getElem_cons_succ,List.getElem_cons_zero,List.setIfInBounds_toArray,List.set_cons_zero,List.set_cons_succ]); ((refine wG 1 (v:=?_) rfl rfl (by kernel_rfl) (fun _ _ _ h => h) (by rfl) ?_ (by assumption) ?_;rotate_left;next => ((intro X hX;(try dsimp only at hX);go_simp);try with_reducible rfl));try simp only [Act.put,List.getElem_toArray,List.getElem_cons_succ,List.getElem_cons_zero,List.setIfInBounds_toArray,List.set_cons_zero,List.set_cons_succ]); ((refine wG 2 (v:=?_) rfl rfl (by kernel_rfl) (fun _ _ _ h => h) (by rfl) ?_ (by assumption) ?_;rotate_left;next => ((intro X hX;(try dsimp only at hX);go_simp);try with_reducible rfl));try simp only [Act.put,List.getElem_toArray,List.getElem_cons_succ,List.getElem_cons_zero,List.setIfInBounds_toArray,List.set_cons_zero,List.set_cons_succ]); ((refine wG 3 (v:=?_) rfl rfl (by kernel_rfl) (fun _ _ _ h => h) (by rfl) ?_ (by assumption) ?_;rotate_left;next => ((intro X hX;(try dsimp only at hX);go_simp);try with_reducible rfl));try simp only [Act.put,List.getElem_toArray,List.getElem_cons_succ,List.getElem_cons_zero,List.setIfInBounds_toArray,List.set_cons_zero,List.set_cons_succ]); ((refine wG 4 (v:=?_) rfl rfl (by kernel_rfl) (fun _ _ _ h => h) (by rfl) ?_ (by assumption) ?_;rotate_left;next => ((intro X hX;(try dsimp only at hX);go_simp);try with_reducible rfl));try simp only [Act.put,List.getElem_toArray,List.getElem_cons_succ,List.getElem_cons_zero,List.setIfInBounds_toArray,List.set_cons_zero,List.set_cons_succ]); ((refine wG 5 (v:=?_) rfl rfl (by kernel_rfl) (fun _ _ _ h => h) (by rfl) ?_ (by assumption) ?_;rotate_left;next => ((intro X hX;(try dsimp only at hX);go_simp);try with_reducible rfl));try simp only [Act.put,List.getElem_toArray,List.getElem_cons_succ,List.getElem_cons_zero,List.setIfInBounds_toArray,List.set_cons_zero,List.set_cons_succ]))
        (refine wpG_one (i := 6) (by kernel_rfl) rfl (fun K hK => ?_))
        go_simp
        refine (l4Do_go W ⟨s.Roots, R2⟩ q r Vd.drew (hW0.out.below (hbw2.out.trans ((below_st hbV.out (show Below Vd.heap.size Vd Vd.drew from by repeat first|with_reducible (first|exact Below.refl _ _|exact Below.refl _ _|refine below_al ?_ _|refine below_dr ?_ _|refine below_d1 ?_)|(with_reducible refine Below.setCell ?_ ?_ _;rotate_left;next => first|(simp;done)|(simp;omega)|omega))).mono hbw2.out.size))) (hr2.out.below (below_st hbV.out (show Below Vd.heap.size Vd Vd.drew from by repeat first|with_reducible (first|exact Below.refl _ _|exact Below.refl _ _|refine below_al ?_ _|refine below_dr ?_ _|refine below_d1 ?_)|(with_reducible refine Below.setCell ?_ ?_ _;rotate_left;next => first|(simp;done)|(simp;omega)|omega)))) q1 hI2.out hr.out hrd.out (by simp; omega)).mono ?_
        rintro e' w8 ⟨y0, y1, rfl, hs8, hb8⟩
        obtain ⟨_, _, he, p0, p1⟩ := State.ropen hs8.reps
        obtain ⟨A9, d9, rfl, _, _⟩ := rep_len p0
        obtain ⟨B9, e9, rfl, _, _⟩ := rep_len p1
        cases he
        have hb8V := Asd.mk (below_st (show Below Vd.heap.size Vd Vd.drew from by repeat first|with_reducible (first|exact Below.refl _ _|exact Below.refl _ _|refine below_al ?_ _|refine below_dr ?_ _|refine below_d1 ?_)|(with_reducible refine Below.setCell ?_ ?_ _;rotate_left;next => first|(simp;done)|(simp;omega)|omega)) hb8)
        have g8 := Asd.mk ((hb8V.out.block xb zxV).trans gxV.out)
        have y0' := cell_below hb8V.out z0
        have y1' := cell_below hb8V.out z1
        have a08 := cell_below hb8V.out a0v
        have hc8 := cell_below hb8V.out hcv
        have zf8 : ∀ o, w8.frozen? ⟨xb, o, none⟩ = false := fun o => frozenOf g8.out o
        have zx8 : xb < w8.heap.size := lt_of_heap g8.out
        have hs9 := Asd.mk hs8
        clear hs8 hb8 p0 p1 z0 z1 a0v hcv zfx
        refine hK.out _ _ (fun _ => ⟨a08, y0', y1', hc8⟩) ?_
        clear hK K hH
        (try simp only [Act.put, List.setIfInBounds_toArray, List.set_cons_zero, List.set_cons_succ])
        (refine wpG_one (i := 7) (by kernel_rfl) rfl (fun K hK => ?_))
        go_simp
        refine hK.out _ _ (fun h => absurd rfl h) ?_
        clear hK K
        refine wpG_done (by kernel_rfl) ?_ _
        go_wp2
        go_roundw
        case rel =>
         refine ⟨j + 1, .slice A9 s.Roots.length d9, .slice B9 (doRun W R2 r).length e9, by omega, by go_num, by rw [hyes.out hc], heap_set1 (heap_set1 g8.out 0 _) 1 _, ?_, ?_⟩
         ·rw [hyes.out hc, hR2.out]
          exact (hs9.out.go (MFr.trans (MFr.of_set _ (by simp; omega)) (MFr.of_set _ (by simp; omega)))).sub (fun b hb => by simp at hb ⊢; omega)
         ·exact (hfV.out.trans (MFr.of_below hb8V.out)).trans (MFr.trans (MFr.of_set _ (by simp)) (MFr.of_set _ (by simp)))
        case measure => simp [intOf]; omega
    ·obtain rfl : j = (readyL W R).length := by omega
     rw [swK_end] at hsx2 gx2 ⊢
     obtain ⟨mv2, hmv⟩ : ∃ mv2, (sweep W (goCondS s.Runs) R).2 = mv2 := ⟨_, rfl⟩
     obtain ⟨R2, hR2⟩ : ∃ R2, (sweep W (goCondS s.Runs) R).1 = R2 := ⟨_, rfl⟩
     have hB2 := hB.out.sweep q1
     have hlt2 := btM_lt (c := goCondS s.Runs) q1 hB.out.reach
     rw [hR2, hmv] at hB2 hlt2
     rw [hR2] at hsx2 gx2
     rw [hmv]
     replace hB2 := Asd.mk hB2
     replace hsx2 := Asd.mk hsx2
     replace gx2 := Asd.mk gx2
     clear hf2 p0 p1
     go_wp2
     go_roundg (btM W R2 mv2)
     case measure => omega
     case rel => exact ⟨mv2, R2, _, _, rfl, hB2.out, gx2.out, hsx2.out, hby.out, Nat.le_refl _⟩
end Go.Proofs.YtkpkfihaihoaeaaGreatDoor.M
end
section
set_option linter.unusedVariables false
set_option linter.unusedSimpArgs false
namespace Go.Proofs.YtkpkfihaihoaeaaGreatDoor.M
open Go.RowKit
set_option maxRecDepth 100000 in
set_option maxHeartbeats 2000000 in
theorem ValidState_calls {tN tS tC t : Nat} (W : Web) (s : State) (w : World) {vs us : List Value} (hW : reps w (W.c tN tS tC) vs) (h : reps w (State.c t s) us) (hz : W.Sm) (hgl : 3 < w.heap.size) (hgt : w.cell? ⟨3, 15, none⟩ = some (.int .u8 4)) :
  Calls Tryz.prog 20 #[.agg vs.toArray, .agg us.toArray] w fun e w' => e = .returned (.bool (validS W s)) ∧ Below w.heap.size w w' := by
 obtain ⟨v0, rfl, h0⟩ := Web.ropen hW
 obtain ⟨A, c, rfl, _, _⟩ := rep_len h0
 obtain ⟨u0, u1, rfl, g0, g1⟩ := State.ropen h
 obtain ⟨D, k, rfl, _, _⟩ := rep_len g0
 obtain ⟨B, d, rfl, _, _⟩ := rep_len g1
 replace hW := Asd.mk hW
 replace h := Asd.mk h
 clear h0 g0 g1
 have HB := Asd.mk (below_al (below_al (Below.refl w.heap.size w) (.cells #[.slice A W.Nodes.length c] 34)) (.cells #[.slice D s.Roots.length k, .slice B s.Runs.length d] 38))
 go_enter Tryz.func20, Tryz.ntmps20
 go_wp2_with fail
 refine (load_calls W s _ (hW.out.below HB.out) (h.out.below HB.out) hz (by simp; omega) (cell_below HB.out hgt)).mono ?_
 rintro e w1 ⟨hb, ⟨hv, eg, F, lo, rfl, _, _⟩ | ⟨hv, rfl⟩⟩
 ·replace hv := Asd.mk hv
  have hb1 := Asd.mk (below_st HB.out hb)
  clear hb
  go_wp2
  go_ret
  exact ⟨by rw [hv.out]; rfl, hb1.out⟩
 ·replace hv := Asd.mk hv
  have hb1 := Asd.mk (below_st HB.out hb)
  clear hb
  go_wp2
  go_ret
  exact ⟨by rw [hv.out]; rfl, hb1.out⟩
end Go.Proofs.YtkpkfihaihoaeaaGreatDoor.M
end
section
set_option linter.unusedVariables false
set_option linter.unusedSimpArgs false
namespace Go.Proofs.YtkpkfihaihoaeaaGreatDoor.M
open Go.RowKit
/-- the slices of a struct's cells marked, the others as they are -/
def mrkl : List T → Nat → List T
 | [], _ => []
 | .l e sz n cells :: ts, k => mrk (.l e sz n cells) k :: mrkl ts (k + cnts cells)
 | .i a b :: ts, k => .i a b :: mrkl ts k
 | .b a :: ts, k => .b a :: mrkl ts k
 | .s a :: ts, k => .s a :: mrkl ts k
def cntl : List T → Nat
 | [] => 0
 | .l _ _ _ cells :: ts => cnts cells + cntl ts
 | _ :: ts => cntl ts
def Iv (lo hi : Nat) (w : World) (ts : List T) (vs : List Value) : Prop := ∃ F, owns w ts vs F ∧ F.Nodup ∧ ∀ b ∈ F, lo ≤ b ∧ b < hi
def MrkI (ts : List T) (vs : List Value) (lo hi k : Nat) (w : World) (e : Ending) (w' : World) : Prop :=
 e = .returned (.int .i64 ((k + cntl ts : Nat) : Int)) ∧ Iv lo hi w' (mrkl ts k) vs ∧ Far lo hi w w'
theorem Far.of_below {w w' : World} (h : Below w.heap.size w w') : Far 0 0 w w' := ⟨h.os, h.tape, h.output, h.size, fun b hb _ => h.block b hb⟩
theorem Far.trans2 {B lo hi : Nat} {w W w' : World} (hb : Below B w W) (h : Far lo hi W w') (hB : B ≤ lo ∨ hi = 0) (hW : B ≤ W.heap.size) : Below B w w' :=
 ⟨h.os.trans hb.os, h.tape.trans hb.tape, h.output.trans hb.output, Nat.le_trans hb.size h.size, fun k hk => (h.block k (by omega) (by rcases hB with h | h <;> omega)).trans (hb.block k hk)⟩
theorem MFr.far {F : List Nat} {w w' : World} {lo hi : Nat} (h : MFr F w w') (hF : ∀ b ∈ F, lo ≤ b ∧ b < hi) : Far lo hi w w' :=
 ⟨h.os, h.tape, h.output, h.size, fun b hb ho => h.block b hb (fun hf => by have := hF b hf; omega)⟩
section
variable {lo hi : Nat} {w w' : World} {ts : List T} {vs : List Value}
theorem Iv.reps (h : Iv lo hi w ts vs) : M.reps w ts vs := by obtain ⟨F, h1, _⟩ := h; exact h1.rep
theorem Iv.below (h : Iv lo hi w ts vs) (hb : Below w.heap.size w w') : Iv lo hi w' ts vs := by obtain ⟨F, h1, h2, h3⟩ := h; exact ⟨F, h1.below hb, h2, h3⟩
theorem Iv.far {a b : Nat} (h : Iv lo hi w ts vs) (hf : Far a b w w') (hd : hi ≤ a ∨ b ≤ lo) : Iv lo hi w' ts vs := by
 obtain ⟨F, h1, h2, h3⟩ := h
 exact ⟨F, h1.move fun k hk => hf.block k (h1.lt k hk) (by have := h3 k hk; omega), h2, h3⟩
theorem Iv.of_mades {W : World} (h : Mades W w ts vs) : Iv W.heap.size w.heap.size w ts vs := by
 obtain ⟨F, h1, h2, h3⟩ := h
 exact ⟨F, h1, h2, fun b hb => ⟨h3 b hb, h1.lt b hb⟩⟩
theorem Iv.of_lie {t : T} {v : Value} (h : Lie lo w t v) : Iv lo w.heap.size w [t] [v] := by
 obtain ⟨F, h1, h2, h3⟩ := h
 exact ⟨F, by simp only [owns]; exact ⟨_, _, F, [], rfl, h1, ⟨rfl, rfl⟩, by simp⟩, h2, fun b hb => ⟨h3 b hb, h1.lt b hb⟩⟩
theorem Iv.mono {lo' hi' : Nat} (h : Iv lo hi w ts vs) (h1 : lo' ≤ lo) (h2 : hi ≤ hi') : Iv lo' hi' w ts vs := by
 obtain ⟨F, a, b, c⟩ := h; exact ⟨F, a, b, fun k hk => by have := c k hk; omega⟩
theorem Iv.one {t : T} {v : Value} (h : Iv lo hi w [t] [v]) : ∃ F, own w t v F ∧ F.Nodup ∧ ∀ b ∈ F, lo ≤ b ∧ b < hi := by
 obtain ⟨F, h1, h2, h3⟩ := h
 simp only [owns] at h1
 obtain ⟨v', us, F1, F2, he, o, ⟨rfl, rfl⟩, rfl⟩ := h1
 cases he
 rw [List.append_nil] at h2 h3
 exact ⟨F1, o, h2, h3⟩
theorem Iv.mk {t : T} {v : Value} {F : List Nat} (h : own w t v F) (hn : F.Nodup) (hF : ∀ b ∈ F, lo ≤ b ∧ b < hi) : Iv lo hi w [t] [v] :=
 ⟨F, by simp only [owns]; exact ⟨_, _, F, [], rfl, h, ⟨rfl, rfl⟩, by simp⟩, hn, hF⟩
end
theorem mrkl_one (e sz n : Nat) (cells : List T) (k : Nat) : mrkl [.l e sz n cells] k = [mrk (.l e sz n cells) k] := rfl
theorem cntl_one (e sz n : Nat) (cells : List T) : cntl [.l e sz n cells] = cnts cells := by simp [cntl]
/-- a list of the result is at most so long as the sizes say -/
theorem cnts_flat {α : Type} (enc : α → List T) (b : α → Nat) (C : Nat) (hC : 1 ≤ C) : ∀ (xs : List α), (∀ x ∈ xs, cnts (enc x) ≤ C * (1 + b x)) → cnts (xs.flatMap enc) ≤ C * (xs.length + (xs.map b).sum)
 | [], _ => by simp [cnts]
 | x :: xs, h => by
  have ih := cnts_flat enc b C hC xs (fun y hy => h y (List.mem_cons_of_mem _ hy))
  have h1 := h x (List.mem_cons_self ..)
  rw [List.flatMap_cons, cnts_append, List.length_cons, List.map_cons, List.sum_cons]
  have e : C * (xs.length + 1 + (b x + (xs.map b).sum)) = C * (1 + b x) + C * (xs.length + (xs.map b).sum) := by rw [← Nat.mul_add]; congr 1; omega
  omega
end Go.Proofs.YtkpkfihaihoaeaaGreatDoor.M
end
section
set_option linter.unusedVariables false
set_option linter.unusedSimpArgs false
namespace Go.Proofs.YtkpkfihaihoaeaaGreatDoor.M
open Go.RowKit

set_option maxRecDepth 100000 in
set_option maxHeartbeats 4000000 in
theorem markStringS_calls (xs : List ByteArray) (v : Value) (F : List Nat) (k : Nat) (n : Int) (w : World) (hn : n = k) (h : own w (strsT 9 xs) v F) (hd : F.Nodup) (h0 : 1 ≤ k) (hk : k + cnt (strsT 9 xs) ≤ 1000000000) :
  Calls Tryz.prog 32 #[v, .int .i64 n] w (MrkP (strsT 9 xs) v F k w) := by
 subst hn
 obtain ⟨A, c, rfl, _, _⟩ := own_slice h
 have hk2 : k + cnts (xs.flatMap strC) ≤ 1000000000 := hk
 have hS := Asd.mk (MS.start (k := k) (cells := (xs.flatMap strC)) h hd)
 have hlen := Asd.mk (show (xs.flatMap strC).length = xs.length from (by simpa using length_flatMap strC 1 (fun _ => rfl) xs))
 clear h hk
 go_enter Tryz.func32, Tryz.ntmps32
 go_wp2
 go_loopw [1, 5] (fun kk i wr => ∃ j : Nat, j ≤ xs.length ∧ i = .int .i64 j ∧ kk = .int .i64 ((kTo (xs.flatMap strC) j k : Nat) : Int) ∧ MS (xs.flatMap strC) 9 1 xs.length (.slice A xs.length c) F w k j wr) (fun _ i _ => xs.length - (intOf i).toNat)
 case atStart => exact ⟨0, by omega, rfl, by rw [kTo_zero], by simpa using hS.out⟩
 case round =>
  obtain ⟨j, hj, rfl, rfl, M0⟩ := hrel
  by_cases hlt : j < xs.length
  ·obtain ⟨g, rfl⟩ := M0.form (by omega)
   have hg0 : g < wr.heap.size := (M0.at).elim id (fun h => by have := hlen.out; omega)
   obtain ⟨l0, e0⟩ : ∃ h : j < (xs.flatMap strC).length, (xs.flatMap strC)[j] = .s xs[j] := fm_at (enc := strC) (sz := 1) (q := 0) (fun _ => rfl) hlt (by omega) rfl
   replace e0 := Asd.mk e0
   obtain ⟨u0, p0, f0⟩ := M0.cell l0
   obtain ⟨K0, t0⟩ : ∃ K, kTo (xs.flatMap strC) j k = K := ⟨_, rfl⟩
   have hKge : k ≤ K0 := by rw [← t0]; exact kTo_ge _ _ _
   have t1 : kTo (xs.flatMap strC) (j + 1) k = K0 + 1 := by rw [kTo_succ k l0, e0.out, t0]; rfl
   have hE : K0 + 1 ≤ 1000000000 := by have := kTo_bd (xs.flatMap strC) (j + 1) k; rw [t1] at this; omega
   rw [t0]
   replace t0 := Asd.mk t0
   replace t1 := Asd.mk t1
   replace M0 := Asd.mk M0
   go_wp2_with fail
   refine (markText_callsI (K0) _ _ (by omega) (by omega) (by omega)).mono ?_
   rintro e w0 ⟨rfl, hb0⟩
   have hg1 : g < w0.heap.size := by have := hb0.size; (try simp at this); omega
   have hc0 : ∀ o, w0.cell? ⟨g, o, none⟩ = _ := fun o => hb0.cell (p := ⟨g, o, none⟩) (by first | (simp; done) | (simp; omega) | omega)
   have hf0 : ∀ o, w0.frozen? ⟨g, o, none⟩ = _ := fun o => hb0.frozen (p := ⟨g, o, none⟩) (by first | (simp; done) | (simp; omega) | omega)
   have M1 := Asd.mk ((M0.out.below hb0).store l0 (u := .string (mkB (K0))) (by rw [e0.out, t0.out]; exact own_s _ _))
   clear hb0
   go_wp2
   go_roundw
   case rel => exact ⟨j + 1, by omega, by go_num, by first | (rw [t1.out]; done) | (rw [t1.out]; first | rfl | go_num), by exact M1.out⟩
   case measure => simp [intOf]; omega
  ·obtain rfl : j = xs.length := by omega
   have e1 := Asd.mk (show kTo (xs.flatMap strC) xs.length k = k + cnt (strsT 9 xs) by rw [← hlen.out]; exact kTo_end _ _)
   have M1 := Asd.mk M0.fr
   replace M0 := Asd.mk (MS.fin2 hlen.out.symm M0)
   go_wp2
   go_ret
   exact ⟨by rw [e1.out]; rfl, M0.out, M1.out⟩
set_option maxRecDepth 100000 in
set_option maxHeartbeats 4000000 in
theorem heldStringS_calls (xs : List ByteArray) (v : Value) (F : List Nat) (k : Nat) (n : Int) (w : World) (hn : n = k) (h : own w (mrk (strsT 9 xs) k) v F) (h0 : 1 ≤ k) (hk : k + cnt (strsT 9 xs) ≤ 1000000000) :
  Calls Tryz.prog 39 #[v, .int .i64 n] w fun e w' => e = .returned (.int .i64 ((k + cnt (strsT 9 xs) : Nat) : Int)) ∧ Below w.heap.size w w' := by
 subst hn
 replace h : own w (.l 9 1 xs.length (mrks (xs.flatMap strC) k)) v F := h
 obtain ⟨A, c, rfl, _, _⟩ := own_slice h
 have hk2 : k + cnts (xs.flatMap strC) ≤ 1000000000 := hk
 have hlen := Asd.mk (show (xs.flatMap strC).length = xs.length from (by simpa using length_flatMap strC 1 (fun _ => rfl) xs))
 replace h := Asd.mk h
 clear hk
 go_enter Tryz.func39, Tryz.ntmps39
 go_wp2
 go_loopw [1, 5] (fun kk i wr => ∃ j : Nat, j ≤ xs.length ∧ i = .int .i64 j ∧ kk = .int .i64 ((kTo (xs.flatMap strC) j k : Nat) : Int) ∧ Below w.heap.size w wr) (fun _ i _ => xs.length - (intOf i).toNat)
 case atStart => exact ⟨0, by omega, rfl, by rw [kTo_zero], Below.refl _ _⟩
 case round =>
  obtain ⟨j, hj, rfl, rfl, HB⟩ := hrel
  replace HB := Asd.mk HB
  by_cases hlt : j < xs.length
  ·obtain ⟨g, rfl⟩ : ∃ g, A = some ⟨g, 0, none⟩ := by
    obtain ⟨g, c', he, _⟩ := own_form h.out (by omega)
    cases he; exact ⟨g, rfl⟩
   obtain ⟨l0, e0⟩ : ∃ h : j < (xs.flatMap strC).length, (xs.flatMap strC)[j] = .s xs[j] := fm_at (enc := strC) (sz := 1) (q := 0) (fun _ => rfl) hlt (by omega) rfl
   replace e0 := Asd.mk e0
   obtain ⟨K0, t0⟩ : ∃ K, kTo (xs.flatMap strC) j k = K := ⟨_, rfl⟩
   have hKge : k ≤ K0 := by rw [← t0]; exact kTo_ge _ _ _
   have t1 : kTo (xs.flatMap strC) (j + 1) k = K0 + 1 := by rw [kTo_succ k l0, e0.out, t0]; rfl
   have hE : K0 + 1 ≤ 1000000000 := by have := kTo_bd (xs.flatMap strC) (j + 1) k; rw [t1] at this; omega
   rw [t0]
   replace t0 := Asd.mk t0
   replace t1 := Asd.mk t1
   obtain ⟨u0, F0, o0, c0⟩ := mrk_cell h.out l0
   rw [e0.out, t0.out] at o0
   obtain rfl : u0 = .string (mkB (K0)) := by
    have h : own w (.s (mkB (K0))) u0 F0 := o0
    simp only [own] at h
    rw [h.1]
   clear o0
   have k0 := Asd.mk (fun (X : World) (hX : Below w.heap.size w X) => cell_below hX c0)
   clear c0
   have r0 := k0.out _ HB.out
   have i0 : (0 : Int) ≤ (j : Int) := by omega
   have i1 : (j : Int) < (xs.length : Int) := by omega
   go_wp2
   go_region_held3 (fun X => X.cell? ⟨g, j, none⟩ = some (.string (mkB (K0)))) ((refine k0.out _ ?_; (repeat first|with_reducible (first|exact Below.refl _ _|exact HB.out|exact hb5.out|refine below_al ?_ _|refine below_dr ?_ _|refine below_d1 ?_)|(with_reducible refine Below.setCell ?_ ?_ _;rotate_left;next => first|(simp;done)|(simp;omega)|omega)); done))
    ((go_at_call 87; refine (markText_callsI (K0) _ _ (by omega) (by omega) (by omega)).mono ?_; rintro e w0 ⟨rfl, hb⟩; have hb5 := Asd.mk (below_st (w := w) (by repeat first|with_reducible (first|exact Below.refl _ _|exact HB.out|refine below_al ?_ _|refine below_dr ?_ _|refine below_d1 ?_)|(with_reducible refine Below.setCell ?_ ?_ _;rotate_left;next => first|(simp;done)|(simp;omega)|omega)) hb); clear hb))
   have HB0 := Asd.mk (show Below w.heap.size w w0 from by repeat first|with_reducible (first|exact Below.refl _ _|exact hb5.out|refine below_al ?_ _|refine below_dr ?_ _|refine below_d1 ?_)|(with_reducible refine Below.setCell ?_ ?_ _;rotate_left;next => first|(simp;done)|(simp;omega)|omega))
   clear hb5
   replace r0 := k0.out _ HB0.out
   go_wp2
   go_roundw
   case rel => exact ⟨j + 1, by omega, by go_num, by first | (rw [t1.out]; done) | (rw [t1.out]; first | rfl | go_num), HB0.out⟩
   case measure => simp [intOf]; omega
  ·obtain rfl : j = xs.length := by omega
   have e1 := Asd.mk (show kTo (xs.flatMap strC) xs.length k = k + cnt (strsT 9 xs) by rw [← hlen.out]; exact kTo_end _ _)
   go_wp2
   go_ret
   exact ⟨by rw [e1.out]; rfl, HB.out⟩
end Go.Proofs.YtkpkfihaihoaeaaGreatDoor.M
end
section
set_option linter.unusedVariables false
set_option linter.unusedSimpArgs false
namespace Go.Proofs.YtkpkfihaihoaeaaGreatDoor.M
open Go.RowKit
/-- values that read the same so long as nothing below hi turns -/
def Rv (lo hi : Nat) (w : World) (ts : List T) (vs : List Value) : Prop := hi ≤ w.heap.size ∧ reps w ts vs ∧ ∀ w2, Below hi w w2 → reps w2 ts vs
section
variable {lo hi : Nat} {w w' : World} {ts : List T} {vs : List Value}
theorem Rv.reps (h : Rv lo hi w ts vs) : M.reps w ts vs := h.2.1
theorem Rv.go (h : Rv lo hi w ts vs) (hb : Below hi w w') : Rv lo hi w' ts vs := ⟨Nat.le_trans h.1 hb.size, h.2.2 w' hb, fun w2 h2 => h.2.2 w2 (hb.trans h2)⟩
theorem Rv.below (h : Rv lo hi w ts vs) (hb : Below w.heap.size w w') : Rv lo hi w' ts vs := h.go (hb.mono h.1)
theorem Rv.far {a b : Nat} (h : Rv lo hi w ts vs) (hf : Far a b w w') (hd : hi ≤ a ∨ b = 0) : Rv lo hi w' ts vs :=
 h.go ⟨hf.os, hf.tape, hf.output, hf.size, fun k hk => hf.block k (Nat.lt_of_lt_of_le hk h.1) (by omega)⟩
theorem Rv.mk (h : M.reps w ts vs) : Rv lo w.heap.size w ts vs := ⟨Nat.le_refl _, h, fun w2 h2 => h.below h2⟩
end
theorem markStringS_iv (xs : List ByteArray) (lo hi k : Nat) (n : Int) (v : Value) (w : World) (hn : n = k) (h : Iv lo hi w [strsT 9 xs] [v]) (h0 : 1 ≤ k) (hk : k + cnt (strsT 9 xs) ≤ 1000000000) :
  Calls Tryz.prog 32 #[v, .int .i64 n] w fun e w' => e = .returned (.int .i64 ((k + cnt (strsT 9 xs) : Nat) : Int)) ∧ Iv lo hi w' [mrk (strsT 9 xs) k] [v] ∧ Far lo hi w w' := by
 obtain ⟨F, o, d, l⟩ := h.one
 refine (markStringS_calls xs v F k n w hn o d h0 hk).mono ?_
 rintro e w' ⟨rfl, ⟨F', o', d', s⟩, hm⟩
 exact ⟨rfl, Iv.mk o' d' (fun b hb => l b (s b hb)), hm.far l⟩
theorem heldStringS_iv (xs : List ByteArray) (lo hi k : Nat) (n : Int) (v : Value) (w : World) (hn : n = k) (h : Iv lo hi w [mrk (strsT 9 xs) k] [v]) (h0 : 1 ≤ k) (hk : k + cnt (strsT 9 xs) ≤ 1000000000) :
  Calls Tryz.prog 39 #[v, .int .i64 n] w fun e w' => e = .returned (.int .i64 ((k + cnt (strsT 9 xs) : Nat) : Int)) ∧ Below w.heap.size w w' := by
 obtain ⟨F, o, d, l⟩ := h.one
 refine (heldStringS_calls xs v F k n w hn o h0 hk).mono ?_
 rintro e w' ⟨rfl, hb⟩
 exact ⟨rfl, hb⟩
end Go.Proofs.YtkpkfihaihoaeaaGreatDoor.M
end
section
set_option linter.unusedVariables false
set_option linter.unusedSimpArgs false
namespace Go.Proofs.YtkpkfihaihoaeaaGreatDoor.M
open Go.RowKit

set_option maxRecDepth 100000 in
set_option maxHeartbeats 4000000 in
theorem markCaseS_calls (xs : List Case) (v : Value) (F : List Nat) (k : Nat) (n : Int) (w : World) (hn : n = k) (h : own w (CasesT 213 xs) v F) (hd : F.Nodup) (h0 : 1 ≤ k) (hk : k + cnt (CasesT 213 xs) ≤ 1000000000) :
  Calls Tryz.prog 186 #[v, .int .i64 n] w (MrkP (CasesT 213 xs) v F k w) := by
 subst hn
 obtain ⟨A, c, rfl, _, _⟩ := own_slice h
 have hk2 : k + cnts (xs.flatMap Case.c) ≤ 1000000000 := hk
 have hS := Asd.mk (MS.start (k := k) (cells := (xs.flatMap Case.c)) h hd)
 have hlen := Asd.mk (show (xs.flatMap Case.c).length = xs.length * 2 from length_flatMap Case.c 2 (fun _ => rfl) xs)
 clear h hk
 go_enter Tryz.func186, Tryz.ntmps186
 go_wp2
 go_loopw [1, 5] (fun kk i wr => ∃ j : Nat, j ≤ xs.length ∧ i = .int .i64 j ∧ kk = .int .i64 ((kTo (xs.flatMap Case.c) (j * 2) k : Nat) : Int) ∧ MS (xs.flatMap Case.c) 213 2 xs.length (.slice A xs.length c) F w k (j * 2) wr) (fun _ i _ => xs.length - (intOf i).toNat)
 case atStart => exact ⟨0, by omega, rfl, by rw [Nat.zero_mul, kTo_zero], by simpa using hS.out⟩
 case round =>
  obtain ⟨j, hj, rfl, rfl, M0⟩ := hrel
  by_cases hlt : j < xs.length
  ·obtain ⟨g, rfl⟩ := M0.form (by omega)
   have hg0 : g < wr.heap.size := (M0.at).elim id (fun h => by have := hlen.out; omega)
   obtain ⟨l0, e0⟩ : ∃ h : j * 2 < (xs.flatMap Case.c).length, (xs.flatMap Case.c)[j * 2] = .s xs[j].Text := fm_at (enc := Case.c) (sz := 2) (q := 0) (fun _ => rfl) hlt (by omega) rfl
   replace e0 := Asd.mk e0
   obtain ⟨u0, p0, f0⟩ := M0.cell l0
   obtain ⟨l1, e1⟩ : ∃ h : j * 2 + 1 < (xs.flatMap Case.c).length, (xs.flatMap Case.c)[j * 2 + 1] = .i .i64 xs[j].Goto := fm_at (enc := Case.c) (sz := 2) (q := 1) (fun _ => rfl) hlt (by omega) rfl
   replace e1 := Asd.mk e1
   obtain ⟨u1, p1, f1⟩ := M0.cell l1
   obtain ⟨K0, t0⟩ : ∃ K, kTo (xs.flatMap Case.c) (j * 2) k = K := ⟨_, rfl⟩
   have hKge : k ≤ K0 := by rw [← t0]; exact kTo_ge _ _ _
   have t1 : kTo (xs.flatMap Case.c) (j * 2 + 1) k = K0 + 1 := by rw [show j * 2 + 1 = (j * 2) + 1 from rfl, kTo_succ k l0, e0.out, t0]; rfl
   have t2 : kTo (xs.flatMap Case.c) (j * 2 + 2) k = K0 + 1 + 1 := by rw [show j * 2 + 2 = (j * 2 + 1) + 1 from rfl, kTo_succ k l1, e1.out, t1]; rfl
   have hE : K0 + 1 + 1 ≤ 1000000000 := by have := kTo_bd (xs.flatMap Case.c) (j * 2 + 2) k; rw [t2] at this; omega
   rw [t0]
   replace t0 := Asd.mk t0
   replace t1 := Asd.mk t1
   replace t2 := Asd.mk t2
   replace M0 := Asd.mk M0
   go_wp2_with fail
   refine (markText_callsI (K0) _ _ (by omega) (by omega) (by omega)).mono ?_
   rintro e w0 ⟨rfl, hb0⟩
   have hg1 : g < w0.heap.size := by have := hb0.size; (try simp at this); omega
   have hc0 : ∀ o, w0.cell? ⟨g, o, none⟩ = _ := fun o => hb0.cell (p := ⟨g, o, none⟩) (by first | (simp; done) | (simp; omega) | omega)
   have hf0 : ∀ o, w0.frozen? ⟨g, o, none⟩ = _ := fun o => hb0.frozen (p := ⟨g, o, none⟩) (by first | (simp; done) | (simp; omega) | omega)
   have M1 := Asd.mk ((M0.out.below hb0).store l0 (u := .string (mkB (K0))) (by rw [e0.out, t0.out]; exact own_s _ _))
   clear hb0
   have M2 := Asd.mk (M1.out.store l1 (u := .int .i64 ((K0 : Int) + 1)) (by rw [e1.out, t1.out]; exact own_iN _ _ (by omega)))
   go_wp2
   go_roundw
   case rel => exact ⟨j + 1, by omega, by go_num, by first | (rw [show (j + 1) * 2 = j * 2 + 2 by omega, t2.out]; done) | (rw [show (j + 1) * 2 = j * 2 + 2 by omega, t2.out]; first | rfl | go_num), by rw [show (j + 1) * 2 = j * 2 + 2 by omega]; exact M2.out⟩
   case measure => simp [intOf]; omega
  ·obtain rfl : j = xs.length := by omega
   have e1 := Asd.mk (show kTo (xs.flatMap Case.c) (xs.length * 2) k = k + cnt (CasesT 213 xs) by rw [← hlen.out]; exact kTo_end _ _)
   have M1 := Asd.mk M0.fr
   replace M0 := Asd.mk (MS.fin2 hlen.out.symm M0)
   go_wp2
   go_ret
   exact ⟨by rw [e1.out]; rfl, M0.out, M1.out⟩
set_option maxRecDepth 100000 in
set_option maxHeartbeats 4000000 in
theorem markStepS_calls (xs : List Step) (v : Value) (F : List Nat) (k : Nat) (n : Int) (w : World) (hn : n = k) (h : own w (StepsT 121 213 xs) v F) (hd : F.Nodup) (h0 : 1 ≤ k) (hk : k + cnt (StepsT 121 213 xs) ≤ 1000000000) :
  Calls Tryz.prog 151 #[v, .int .i64 n] w (MrkP (StepsT 121 213 xs) v F k w) := by
 subst hn
 obtain ⟨A, c, rfl, _, _⟩ := own_slice h
 have hk2 : k + cnts (xs.flatMap (Step.c 213)) ≤ 1000000000 := hk
 have hS := Asd.mk (MS.start (k := k) (cells := (xs.flatMap (Step.c 213))) h hd)
 have hlen := Asd.mk (show (xs.flatMap (Step.c 213)).length = xs.length * 8 from length_flatMap (Step.c 213) 8 (fun _ => rfl) xs)
 clear h hk
 go_enter Tryz.func151, Tryz.ntmps151
 go_wp2
 go_loopw [1, 5] (fun kk i wr => ∃ j : Nat, j ≤ xs.length ∧ i = .int .i64 j ∧ kk = .int .i64 ((kTo (xs.flatMap (Step.c 213)) (j * 8) k : Nat) : Int) ∧ MS (xs.flatMap (Step.c 213)) 121 8 xs.length (.slice A xs.length c) F w k (j * 8) wr) (fun _ i _ => xs.length - (intOf i).toNat)
 case atStart => exact ⟨0, by omega, rfl, by rw [Nat.zero_mul, kTo_zero], by simpa using hS.out⟩
 case round =>
  obtain ⟨j, hj, rfl, rfl, M0⟩ := hrel
  by_cases hlt : j < xs.length
  ·obtain ⟨g, rfl⟩ := M0.form (by omega)
   have hg0 : g < wr.heap.size := (M0.at).elim id (fun h => by have := hlen.out; omega)
   obtain ⟨l0, e0⟩ : ∃ h : j * 8 < (xs.flatMap (Step.c 213)).length, (xs.flatMap (Step.c 213))[j * 8] = strsT 9 xs[j].Asks := fm_at (enc := (Step.c 213)) (sz := 8) (q := 0) (fun _ => rfl) hlt (by omega) rfl
   replace e0 := Asd.mk e0
   obtain ⟨u0, p0, f0⟩ := M0.cell l0
   obtain ⟨l1, e1⟩ : ∃ h : j * 8 + 1 < (xs.flatMap (Step.c 213)).length, (xs.flatMap (Step.c 213))[j * 8 + 1] = .i .i64 xs[j].On := fm_at (enc := (Step.c 213)) (sz := 8) (q := 1) (fun _ => rfl) hlt (by omega) rfl
   replace e1 := Asd.mk e1
   obtain ⟨u1, p1, f1⟩ := M0.cell l1
   obtain ⟨l2, e2⟩ : ∃ h : j * 8 + 2 < (xs.flatMap (Step.c 213)).length, (xs.flatMap (Step.c 213))[j * 8 + 2] = CasesT 213 xs[j].Cases := fm_at (enc := (Step.c 213)) (sz := 8) (q := 2) (fun _ => rfl) hlt (by omega) rfl
   replace e2 := Asd.mk e2
   obtain ⟨u2, p2, f2⟩ := M0.cell l2
   obtain ⟨l3, e3⟩ : ∃ h : j * 8 + 3 < (xs.flatMap (Step.c 213)).length, (xs.flatMap (Step.c 213))[j * 8 + 3] = .i .i64 xs[j].Else := fm_at (enc := (Step.c 213)) (sz := 8) (q := 3) (fun _ => rfl) hlt (by omega) rfl
   replace e3 := Asd.mk e3
   obtain ⟨u3, p3, f3⟩ := M0.cell l3
   obtain ⟨l4, e4⟩ : ∃ h : j * 8 + 4 < (xs.flatMap (Step.c 213)).length, (xs.flatMap (Step.c 213))[j * 8 + 4] = .i .i64 xs[j].Fall := fm_at (enc := (Step.c 213)) (sz := 8) (q := 4) (fun _ => rfl) hlt (by omega) rfl
   replace e4 := Asd.mk e4
   obtain ⟨u4, p4, f4⟩ := M0.cell l4
   obtain ⟨l5, e5⟩ : ∃ h : j * 8 + 5 < (xs.flatMap (Step.c 213)).length, (xs.flatMap (Step.c 213))[j * 8 + 5] = .b xs[j].End := fm_at (enc := (Step.c 213)) (sz := 8) (q := 5) (fun _ => rfl) hlt (by omega) rfl
   replace e5 := Asd.mk e5
   obtain ⟨u5, p5, f5⟩ := M0.cell l5
   obtain ⟨l6, e6⟩ : ∃ h : j * 8 + 6 < (xs.flatMap (Step.c 213)).length, (xs.flatMap (Step.c 213))[j * 8 + 6] = .b xs[j].Bad := fm_at (enc := (Step.c 213)) (sz := 8) (q := 6) (fun _ => rfl) hlt (by omega) rfl
   replace e6 := Asd.mk e6
   obtain ⟨u6, p6, f6⟩ := M0.cell l6
   obtain ⟨l7, e7⟩ : ∃ h : j * 8 + 7 < (xs.flatMap (Step.c 213)).length, (xs.flatMap (Step.c 213))[j * 8 + 7] = .s xs[j].Give := fm_at (enc := (Step.c 213)) (sz := 8) (q := 7) (fun _ => rfl) hlt (by omega) rfl
   replace e7 := Asd.mk e7
   obtain ⟨u7, p7, f7⟩ := M0.cell l7
   obtain ⟨K0, t0⟩ : ∃ K, kTo (xs.flatMap (Step.c 213)) (j * 8) k = K := ⟨_, rfl⟩
   have hKge : k ≤ K0 := by rw [← t0]; exact kTo_ge _ _ _
   obtain ⟨K1, s1⟩ : ∃ K, K0 + cnt (strsT 9 xs[j].Asks) = K := ⟨_, rfl⟩
   have t1 : kTo (xs.flatMap (Step.c 213)) (j * 8 + 1) k = K1 := by rw [show j * 8 + 1 = (j * 8) + 1 from rfl, kTo_succ k l0, e0.out, t0]; exact s1
   have z1 : K0 ≤ K1 := by omega
   replace s1 := Asd.mk s1
   have t2 : kTo (xs.flatMap (Step.c 213)) (j * 8 + 2) k = K1 + 1 := by rw [show j * 8 + 2 = (j * 8 + 1) + 1 from rfl, kTo_succ k l1, e1.out, t1]; rfl
   obtain ⟨K2, s2⟩ : ∃ K, K1 + 1 + cnt (CasesT 213 xs[j].Cases) = K := ⟨_, rfl⟩
   have t3 : kTo (xs.flatMap (Step.c 213)) (j * 8 + 3) k = K2 := by rw [show j * 8 + 3 = (j * 8 + 2) + 1 from rfl, kTo_succ k l2, e2.out, t2]; exact s2
   have z2 : K1 + 1 ≤ K2 := by omega
   replace s2 := Asd.mk s2
   have t4 : kTo (xs.flatMap (Step.c 213)) (j * 8 + 4) k = K2 + 1 := by rw [show j * 8 + 4 = (j * 8 + 3) + 1 from rfl, kTo_succ k l3, e3.out, t3]; rfl
   have t5 : kTo (xs.flatMap (Step.c 213)) (j * 8 + 5) k = K2 + 1 + 1 := by rw [show j * 8 + 5 = (j * 8 + 4) + 1 from rfl, kTo_succ k l4, e4.out, t4]; rfl
   have t6 : kTo (xs.flatMap (Step.c 213)) (j * 8 + 6) k = K2 + 1 + 1 + 1 := by rw [show j * 8 + 6 = (j * 8 + 5) + 1 from rfl, kTo_succ k l5, e5.out, t5]; rfl
   have t7 : kTo (xs.flatMap (Step.c 213)) (j * 8 + 7) k = K2 + 1 + 1 + 1 + 1 := by rw [show j * 8 + 7 = (j * 8 + 6) + 1 from rfl, kTo_succ k l6, e6.out, t6]; rfl
   have t8 : kTo (xs.flatMap (Step.c 213)) (j * 8 + 8) k = K2 + 1 + 1 + 1 + 1 + 1 := by rw [show j * 8 + 8 = (j * 8 + 7) + 1 from rfl, kTo_succ k l7, e7.out, t7]; rfl
   have hE : K2 + 1 + 1 + 1 + 1 + 1 ≤ 1000000000 := by have := kTo_bd (xs.flatMap (Step.c 213)) (j * 8 + 8) k; rw [t8] at this; omega
   rw [t0]
   replace t0 := Asd.mk t0
   replace t1 := Asd.mk t1
   replace t2 := Asd.mk t2
   replace t3 := Asd.mk t3
   replace t4 := Asd.mk t4
   replace t5 := Asd.mk t5
   replace t6 := Asd.mk t6
   replace t7 := Asd.mk t7
   replace t8 := Asd.mk t8
   replace M0 := Asd.mk M0
   obtain ⟨v0, F0, o0, d0, g0, c0, back0⟩ := M0.out.nested l0
   replace c0 := Asd.mk c0
   obtain rfl : v0 = u0 := Option.some.inj (c0.out.symm.trans (by go_simp))
   clear c0
   rw [e0.out, t0.out] at back0
   rw [e0.out] at o0
   obtain ⟨A0, C0, rfl, _, _⟩ := own_slice (show own _ (strsT 9 xs[j].Asks) v0 F0 from o0)
   replace o0 := Asd.mk o0
   replace back0 := Asd.mk back0
   replace d0 := Asd.mk d0
   have hx0 := markStringS_calls xs[j].Asks _ F0 (K0) ((K0 : Int)) _ (by omega) o0.out d0.out (by omega) (by have := s1.out; omega)
   replace hx0 := Asd.mk hx0
   go_wp2_with fail
   refine hx0.out.mono ?_
   rintro e w0 hM0
   obtain ⟨M1, hc0, hf0⟩ := back0.out _ _ hM0
   have he0 := hM0.1
   rw [s1.out] at he0
   subst he0
   have hg1 : g < w0.heap.size := by have := hM0.2.2.size; (try simp at this); omega
   replace M1 := Asd.mk M1
   clear hM0
   have M2 := Asd.mk (M1.out.store l1 (u := .int .i64 ((K1 : Int))) (by rw [e1.out, t1.out]; exact own_iN _ _ (by omega)))
   obtain ⟨v2, F2, o2, d2, g2, c2, back2⟩ := M2.out.nested l2
   replace c2 := Asd.mk c2
   obtain rfl : v2 = u2 := Option.some.inj (c2.out.symm.trans (by go_simp))
   clear c2
   rw [e2.out, t2.out] at back2
   rw [e2.out] at o2
   obtain ⟨A2, C2, rfl, _, _⟩ := own_slice (show own _ (CasesT 213 xs[j].Cases) v2 F2 from o2)
   replace o2 := Asd.mk o2
   replace back2 := Asd.mk back2
   replace d2 := Asd.mk d2
   have hx2 := markCaseS_calls xs[j].Cases _ F2 (K1 + 1) ((K1 : Int) + 1) _ (by omega) o2.out d2.out (by omega) (by have := s2.out; omega)
   replace hx2 := Asd.mk hx2
   go_wp2_with fail
   refine hx2.out.mono ?_
   rintro e w2 hM2
   obtain ⟨M3, hc2, hf2⟩ := back2.out _ _ hM2
   have he2 := hM2.1
   rw [s2.out] at he2
   subst he2
   have hg3 : g < w2.heap.size := by have := hM2.2.2.size; (try simp at this); omega
   replace M3 := Asd.mk M3
   clear hM2
   have M4 := Asd.mk (M3.out.store l3 (u := .int .i64 ((K2 : Int))) (by rw [e3.out, t3.out]; exact own_iN _ _ (by omega)))
   have M5 := Asd.mk (M4.out.store l4 (u := .int .i64 ((K2 : Int) + 1)) (by rw [e4.out, t4.out]; exact own_iN _ _ (by omega)))
   have M6 := Asd.mk (M5.out.store l5 (u := .bool (((K2 : Int) + 1 + 1) % 3 == 0)) (by rw [e5.out, t5.out]; exact own_bN _ (by unfold m3; first | rfl | (congr 1; omega))))
   have M7 := Asd.mk (M6.out.store l6 (u := .bool (((K2 : Int) + 1 + 1 + 1) % 3 == 0)) (by rw [e6.out, t6.out]; exact own_bN _ (by unfold m3; first | rfl | (congr 1; omega))))
   go_wp2_with fail
   refine (markText_callsI (K2 + 1 + 1 + 1 + 1) _ _ (by omega) (by omega) (by omega)).mono ?_
   rintro e w7 ⟨rfl, hb7⟩
   have hg8 : g < w7.heap.size := by have := hb7.size; (try simp at this); omega
   have hc7 : ∀ o, w7.cell? ⟨g, o, none⟩ = _ := fun o => hb7.cell (p := ⟨g, o, none⟩) (by first | (simp; done) | (simp; omega) | omega)
   have hf7 : ∀ o, w7.frozen? ⟨g, o, none⟩ = _ := fun o => hb7.frozen (p := ⟨g, o, none⟩) (by first | (simp; done) | (simp; omega) | omega)
   have M8 := Asd.mk ((M7.out.below hb7).store l7 (u := .string (mkB (K2 + 1 + 1 + 1 + 1))) (by rw [e7.out, t7.out]; exact own_s _ _))
   clear hb7
   go_wp2
   go_roundw
   case rel => exact ⟨j + 1, by omega, by go_num, by first | (rw [show (j + 1) * 8 = j * 8 + 8 by omega, t8.out]; done) | (rw [show (j + 1) * 8 = j * 8 + 8 by omega, t8.out]; first | rfl | go_num), by rw [show (j + 1) * 8 = j * 8 + 8 by omega]; exact M8.out⟩
   case measure => simp [intOf]; omega
  ·obtain rfl : j = xs.length := by omega
   have e1 := Asd.mk (show kTo (xs.flatMap (Step.c 213)) (xs.length * 8) k = k + cnt (StepsT 121 213 xs) by rw [← hlen.out]; exact kTo_end _ _)
   have M1 := Asd.mk M0.fr
   replace M0 := Asd.mk (MS.fin2 hlen.out.symm M0)
   go_wp2
   go_ret
   exact ⟨by rw [e1.out]; rfl, M0.out, M1.out⟩
set_option maxRecDepth 100000 in
set_option maxHeartbeats 4000000 in
theorem markNodeS_calls (xs : List Node) (v : Value) (F : List Nat) (k : Nat) (n : Int) (w : World) (hn : n = k) (h : own w (NodesT 113 121 213 xs) v F) (hd : F.Nodup) (h0 : 1 ≤ k) (hk : k + cnt (NodesT 113 121 213 xs) ≤ 1000000000) :
  Calls Tryz.prog 86 #[v, .int .i64 n] w (MrkP (NodesT 113 121 213 xs) v F k w) := by
 subst hn
 obtain ⟨A, c, rfl, _, _⟩ := own_slice h
 have hk2 : k + cnts (xs.flatMap (Node.c 121 213)) ≤ 1000000000 := hk
 have hS := Asd.mk (MS.start (k := k) (cells := (xs.flatMap (Node.c 121 213))) h hd)
 have hlen := Asd.mk (show (xs.flatMap (Node.c 121 213)).length = xs.length * 3 from length_flatMap (Node.c 121 213) 3 (fun _ => rfl) xs)
 clear h hk
 go_enter Tryz.func86, Tryz.ntmps86
 go_wp2
 go_loopw [1, 5] (fun kk i wr => ∃ j : Nat, j ≤ xs.length ∧ i = .int .i64 j ∧ kk = .int .i64 ((kTo (xs.flatMap (Node.c 121 213)) (j * 3) k : Nat) : Int) ∧ MS (xs.flatMap (Node.c 121 213)) 113 3 xs.length (.slice A xs.length c) F w k (j * 3) wr) (fun _ i _ => xs.length - (intOf i).toNat)
 case atStart => exact ⟨0, by omega, rfl, by rw [Nat.zero_mul, kTo_zero], by simpa using hS.out⟩
 case round =>
  obtain ⟨j, hj, rfl, rfl, M0⟩ := hrel
  by_cases hlt : j < xs.length
  ·obtain ⟨g, rfl⟩ := M0.form (by omega)
   have hg0 : g < wr.heap.size := (M0.at).elim id (fun h => by have := hlen.out; omega)
   obtain ⟨l0, e0⟩ : ∃ h : j * 3 < (xs.flatMap (Node.c 121 213)).length, (xs.flatMap (Node.c 121 213))[j * 3] = .s xs[j].Name := fm_at (enc := (Node.c 121 213)) (sz := 3) (q := 0) (fun _ => rfl) hlt (by omega) rfl
   replace e0 := Asd.mk e0
   obtain ⟨u0, p0, f0⟩ := M0.cell l0
   obtain ⟨l1, e1⟩ : ∃ h : j * 3 + 1 < (xs.flatMap (Node.c 121 213)).length, (xs.flatMap (Node.c 121 213))[j * 3 + 1] = .i .i64 xs[j].Action.Cost := fm_at (enc := (Node.c 121 213)) (sz := 3) (q := 1) (fun _ => rfl) hlt (by omega) rfl
   replace e1 := Asd.mk e1
   obtain ⟨u1, p1, f1⟩ := M0.cell l1
   obtain ⟨l2, e2⟩ : ∃ h : j * 3 + 2 < (xs.flatMap (Node.c 121 213)).length, (xs.flatMap (Node.c 121 213))[j * 3 + 2] = StepsT 121 213 xs[j].Action.Steps := fm_at (enc := (Node.c 121 213)) (sz := 3) (q := 2) (fun _ => rfl) hlt (by omega) rfl
   replace e2 := Asd.mk e2
   obtain ⟨u2, p2, f2⟩ := M0.cell l2
   obtain ⟨K0, t0⟩ : ∃ K, kTo (xs.flatMap (Node.c 121 213)) (j * 3) k = K := ⟨_, rfl⟩
   have hKge : k ≤ K0 := by rw [← t0]; exact kTo_ge _ _ _
   have t1 : kTo (xs.flatMap (Node.c 121 213)) (j * 3 + 1) k = K0 + 1 := by rw [show j * 3 + 1 = (j * 3) + 1 from rfl, kTo_succ k l0, e0.out, t0]; rfl
   have t2 : kTo (xs.flatMap (Node.c 121 213)) (j * 3 + 2) k = K0 + 1 + 1 := by rw [show j * 3 + 2 = (j * 3 + 1) + 1 from rfl, kTo_succ k l1, e1.out, t1]; rfl
   obtain ⟨K1, s1⟩ : ∃ K, K0 + 1 + 1 + cnt (StepsT 121 213 xs[j].Action.Steps) = K := ⟨_, rfl⟩
   have t3 : kTo (xs.flatMap (Node.c 121 213)) (j * 3 + 3) k = K1 := by rw [show j * 3 + 3 = (j * 3 + 2) + 1 from rfl, kTo_succ k l2, e2.out, t2]; exact s1
   have z1 : K0 + 1 + 1 ≤ K1 := by omega
   replace s1 := Asd.mk s1
   have hE : K1 ≤ 1000000000 := by have := kTo_bd (xs.flatMap (Node.c 121 213)) (j * 3 + 3) k; rw [t3] at this; omega
   rw [t0]
   replace t0 := Asd.mk t0
   replace t1 := Asd.mk t1
   replace t2 := Asd.mk t2
   replace t3 := Asd.mk t3
   replace M0 := Asd.mk M0
   go_wp2_with fail
   refine (markText_callsI (K0) _ _ (by omega) (by omega) (by omega)).mono ?_
   rintro e w0 ⟨rfl, hb0⟩
   have hg1 : g < w0.heap.size := by have := hb0.size; (try simp at this); omega
   have hc0 : ∀ o, w0.cell? ⟨g, o, none⟩ = _ := fun o => hb0.cell (p := ⟨g, o, none⟩) (by first | (simp; done) | (simp; omega) | omega)
   have hf0 : ∀ o, w0.frozen? ⟨g, o, none⟩ = _ := fun o => hb0.frozen (p := ⟨g, o, none⟩) (by first | (simp; done) | (simp; omega) | omega)
   have M1 := Asd.mk ((M0.out.below hb0).store l0 (u := .string (mkB (K0))) (by rw [e0.out, t0.out]; exact own_s _ _))
   clear hb0
   have M2 := Asd.mk (M1.out.store l1 (u := .int .i64 ((K0 : Int) + 1)) (by rw [e1.out, t1.out]; exact own_iN _ _ (by omega)))
   obtain ⟨v2, F2, o2, d2, g2, c2, back2⟩ := M2.out.nested l2
   replace c2 := Asd.mk c2
   obtain rfl : v2 = u2 := Option.some.inj (c2.out.symm.trans (by go_simp))
   clear c2
   rw [e2.out, t2.out] at back2
   rw [e2.out] at o2
   obtain ⟨A2, C2, rfl, _, _⟩ := own_slice (show own _ (StepsT 121 213 xs[j].Action.Steps) v2 F2 from o2)
   replace o2 := Asd.mk o2
   replace back2 := Asd.mk back2
   replace d2 := Asd.mk d2
   have hx2 := markStepS_calls xs[j].Action.Steps _ F2 (K0 + 1 + 1) ((K0 : Int) + 1 + 1) _ (by omega) o2.out d2.out (by omega) (by have := s1.out; omega)
   replace hx2 := Asd.mk hx2
   go_wp2_with fail
   refine hx2.out.mono ?_
   rintro e w2 hM2
   obtain ⟨M3, hc2, hf2⟩ := back2.out _ _ hM2
   have he2 := hM2.1
   rw [s1.out] at he2
   subst he2
   have hg3 : g < w2.heap.size := by have := hM2.2.2.size; (try simp at this); omega
   replace M3 := Asd.mk M3
   clear hM2
   go_wp2
   go_roundw
   case rel => exact ⟨j + 1, by omega, by go_num, by first | (rw [show (j + 1) * 3 = j * 3 + 3 by omega, t3.out]; done) | (rw [show (j + 1) * 3 = j * 3 + 3 by omega, t3.out]; first | rfl | go_num), by rw [show (j + 1) * 3 = j * 3 + 3 by omega]; exact M3.out⟩
   case measure => simp [intOf]; omega
  ·obtain rfl : j = xs.length := by omega
   have e1 := Asd.mk (show kTo (xs.flatMap (Node.c 121 213)) (xs.length * 3) k = k + cnt (NodesT 113 121 213 xs) by rw [← hlen.out]; exact kTo_end _ _)
   have M1 := Asd.mk M0.fr
   replace M0 := Asd.mk (MS.fin2 hlen.out.symm M0)
   go_wp2
   go_ret
   exact ⟨by rw [e1.out]; rfl, M0.out, M1.out⟩
set_option maxRecDepth 100000 in
set_option maxHeartbeats 2000000 in
theorem markWeb_calls (x : Web) (lo hi k : Nat) (n : Int) (w : World) (hn : n = k) {vs : List Value} (h : Iv lo hi w (x.c 113 121 213) vs) (h0 : 1 ≤ k) (hk : k + cntl (x.c 113 121 213) ≤ 1000000000) :
  Calls Tryz.prog 31 #[.agg vs.toArray, .int .i64 n] w (MrkI (x.c 113 121 213) vs lo hi k w) := by
 subst hn
 obtain ⟨v0, rfl⟩ : ∃ v0, vs = [v0] := by
  obtain ⟨F, o, _⟩ := h
  obtain ⟨v0, F0, rfl, _⟩ := Web.oopen o
  exact ⟨v0, rfl⟩
 obtain ⟨F, o, hd, hF⟩ := Iv.one (t := NodesT 113 121 213 x.Nodes) h
 obtain ⟨A, c, rfl, _, _⟩ := own_slice (show own w (NodesT 113 121 213 x.Nodes) v0 F from o)
 have ec := Asd.mk (show cntl (x.c 113 121 213) = cnt (NodesT 113 121 213 x.Nodes) from cntl_one _ _ _ _)
 rw [ec.out] at hk
 have hx := Asd.mk (fun (W : World) (hW : Below w.heap.size w W) => markNodeS_calls x.Nodes _ F k (k : Int) W rfl (o.below hW) hd h0 hk)
 clear h
 have h1 : ¬((k : Int) + (cnt (NodesT 113 121 213 x.Nodes) : Int) < 0) := by omega
 go_enter Tryz.func31, Tryz.ntmps31
 go_wp2_with fail
 refine (hx.out _ (below_al (Below.refl _ _) _)).mono ?_
 rintro e w1 ⟨rfl, ⟨F', o', n', s'⟩, m'⟩
 have hf := Asd.mk (m'.far hF)
 have hI := Asd.mk (Iv.mk o' n' (fun b hb => hF b (s' b hb)))
 clear o' n' s' m'
 go_wp2
 go_ret
 refine ⟨by rw [ec.out]; rfl, hI.out, ?_⟩
 have hz := hf.out
 exact ⟨hz.os, hz.tape, hz.output, Nat.le_trans (by simp) hz.size, fun b hb ho => (hz.block b (by simp; omega) ho).trans (heap_alloc_old _ _ hb)⟩
end Go.Proofs.YtkpkfihaihoaeaaGreatDoor.M
end
section
set_option linter.unusedVariables false
set_option linter.unusedSimpArgs false
namespace Go.Proofs.YtkpkfihaihoaeaaGreatDoor.M
open Go.RowKit

set_option maxRecDepth 100000 in
set_option maxHeartbeats 4000000 in
theorem markRunS_calls (xs : List Run) (v : Value) (F : List Nat) (k : Nat) (n : Int) (w : World) (hn : n = k) (h : own w (RunsT 84 xs) v F) (hd : F.Nodup) (h0 : 1 ≤ k) (hk : k + cnt (RunsT 84 xs) ≤ 1000000000) :
  Calls Tryz.prog 88 #[v, .int .i64 n] w (MrkP (RunsT 84 xs) v F k w) := by
 subst hn
 obtain ⟨A, c, rfl, _, _⟩ := own_slice h
 have hk2 : k + cnts (xs.flatMap Run.c) ≤ 1000000000 := hk
 have hS := Asd.mk (MS.start (k := k) (cells := (xs.flatMap Run.c)) h hd)
 have hlen := Asd.mk (show (xs.flatMap Run.c).length = xs.length * 7 from length_flatMap Run.c 7 (fun _ => rfl) xs)
 clear h hk
 go_enter Tryz.func88, Tryz.ntmps88
 go_wp2
 go_loopw [1, 5] (fun kk i wr => ∃ j : Nat, j ≤ xs.length ∧ i = .int .i64 j ∧ kk = .int .i64 ((kTo (xs.flatMap Run.c) (j * 7) k : Nat) : Int) ∧ MS (xs.flatMap Run.c) 84 7 xs.length (.slice A xs.length c) F w k (j * 7) wr) (fun _ i _ => xs.length - (intOf i).toNat)
 case atStart => exact ⟨0, by omega, rfl, by rw [Nat.zero_mul, kTo_zero], by simpa using hS.out⟩
 case round =>
  obtain ⟨j, hj, rfl, rfl, M0⟩ := hrel
  by_cases hlt : j < xs.length
  ·obtain ⟨g, rfl⟩ := M0.form (by omega)
   have hg0 : g < wr.heap.size := (M0.at).elim id (fun h => by have := hlen.out; omega)
   obtain ⟨l0, e0⟩ : ∃ h : j * 7 < (xs.flatMap Run.c).length, (xs.flatMap Run.c)[j * 7] = .s xs[j].Name := fm_at (enc := Run.c) (sz := 7) (q := 0) (fun _ => rfl) hlt (by omega) rfl
   replace e0 := Asd.mk e0
   obtain ⟨u0, p0, f0⟩ := M0.cell l0
   obtain ⟨l1, e1⟩ : ∃ h : j * 7 + 1 < (xs.flatMap Run.c).length, (xs.flatMap Run.c)[j * 7 + 1] = .b xs[j].Over := fm_at (enc := Run.c) (sz := 7) (q := 1) (fun _ => rfl) hlt (by omega) rfl
   replace e1 := Asd.mk e1
   obtain ⟨u1, p1, f1⟩ := M0.cell l1
   obtain ⟨l2, e2⟩ : ∃ h : j * 7 + 2 < (xs.flatMap Run.c).length, (xs.flatMap Run.c)[j * 7 + 2] = .b xs[j].Fail := fm_at (enc := Run.c) (sz := 7) (q := 2) (fun _ => rfl) hlt (by omega) rfl
   replace e2 := Asd.mk e2
   obtain ⟨u2, p2, f2⟩ := M0.cell l2
   obtain ⟨l3, e3⟩ : ∃ h : j * 7 + 3 < (xs.flatMap Run.c).length, (xs.flatMap Run.c)[j * 7 + 3] = .s xs[j].Text := fm_at (enc := Run.c) (sz := 7) (q := 3) (fun _ => rfl) hlt (by omega) rfl
   replace e3 := Asd.mk e3
   obtain ⟨u3, p3, f3⟩ := M0.cell l3
   obtain ⟨l4, e4⟩ : ∃ h : j * 7 + 4 < (xs.flatMap Run.c).length, (xs.flatMap Run.c)[j * 7 + 4] = .i .i64 xs[j].At := fm_at (enc := Run.c) (sz := 7) (q := 4) (fun _ => rfl) hlt (by omega) rfl
   replace e4 := Asd.mk e4
   obtain ⟨u4, p4, f4⟩ := M0.cell l4
   obtain ⟨l5, e5⟩ : ∃ h : j * 7 + 5 < (xs.flatMap Run.c).length, (xs.flatMap Run.c)[j * 7 + 5] = .i .i64 xs[j].Visits := fm_at (enc := Run.c) (sz := 7) (q := 5) (fun _ => rfl) hlt (by omega) rfl
   replace e5 := Asd.mk e5
   obtain ⟨u5, p5, f5⟩ := M0.cell l5
   obtain ⟨l6, e6⟩ : ∃ h : j * 7 + 6 < (xs.flatMap Run.c).length, (xs.flatMap Run.c)[j * 7 + 6] = strsT 9 xs[j].Texts := fm_at (enc := Run.c) (sz := 7) (q := 6) (fun _ => rfl) hlt (by omega) rfl
   replace e6 := Asd.mk e6
   obtain ⟨u6, p6, f6⟩ := M0.cell l6
   obtain ⟨K0, t0⟩ : ∃ K, kTo (xs.flatMap Run.c) (j * 7) k = K := ⟨_, rfl⟩
   have hKge : k ≤ K0 := by rw [← t0]; exact kTo_ge _ _ _
   have t1 : kTo (xs.flatMap Run.c) (j * 7 + 1) k = K0 + 1 := by rw [show j * 7 + 1 = (j * 7) + 1 from rfl, kTo_succ k l0, e0.out, t0]; rfl
   have t2 : kTo (xs.flatMap Run.c) (j * 7 + 2) k = K0 + 1 + 1 := by rw [show j * 7 + 2 = (j * 7 + 1) + 1 from rfl, kTo_succ k l1, e1.out, t1]; rfl
   have t3 : kTo (xs.flatMap Run.c) (j * 7 + 3) k = K0 + 1 + 1 + 1 := by rw [show j * 7 + 3 = (j * 7 + 2) + 1 from rfl, kTo_succ k l2, e2.out, t2]; rfl
   have t4 : kTo (xs.flatMap Run.c) (j * 7 + 4) k = K0 + 1 + 1 + 1 + 1 := by rw [show j * 7 + 4 = (j * 7 + 3) + 1 from rfl, kTo_succ k l3, e3.out, t3]; rfl
   have t5 : kTo (xs.flatMap Run.c) (j * 7 + 5) k = K0 + 1 + 1 + 1 + 1 + 1 := by rw [show j * 7 + 5 = (j * 7 + 4) + 1 from rfl, kTo_succ k l4, e4.out, t4]; rfl
   have t6 : kTo (xs.flatMap Run.c) (j * 7 + 6) k = K0 + 1 + 1 + 1 + 1 + 1 + 1 := by rw [show j * 7 + 6 = (j * 7 + 5) + 1 from rfl, kTo_succ k l5, e5.out, t5]; rfl
   obtain ⟨K1, s1⟩ : ∃ K, K0 + 1 + 1 + 1 + 1 + 1 + 1 + cnt (strsT 9 xs[j].Texts) = K := ⟨_, rfl⟩
   have t7 : kTo (xs.flatMap Run.c) (j * 7 + 7) k = K1 := by rw [show j * 7 + 7 = (j * 7 + 6) + 1 from rfl, kTo_succ k l6, e6.out, t6]; exact s1
   have z1 : K0 + 1 + 1 + 1 + 1 + 1 + 1 ≤ K1 := by omega
   replace s1 := Asd.mk s1
   have hE : K1 ≤ 1000000000 := by have := kTo_bd (xs.flatMap Run.c) (j * 7 + 7) k; rw [t7] at this; omega
   rw [t0]
   replace t0 := Asd.mk t0
   replace t1 := Asd.mk t1
   replace t2 := Asd.mk t2
   replace t3 := Asd.mk t3
   replace t4 := Asd.mk t4
   replace t5 := Asd.mk t5
   replace t6 := Asd.mk t6
   replace t7 := Asd.mk t7
   replace M0 := Asd.mk M0
   go_wp2_with fail
   refine (markText_callsI (K0) _ _ (by omega) (by omega) (by omega)).mono ?_
   rintro e w0 ⟨rfl, hb0⟩
   have hg1 : g < w0.heap.size := by have := hb0.size; (try simp at this); omega
   have hc0 : ∀ o, w0.cell? ⟨g, o, none⟩ = _ := fun o => hb0.cell (p := ⟨g, o, none⟩) (by first | (simp; done) | (simp; omega) | omega)
   have hf0 : ∀ o, w0.frozen? ⟨g, o, none⟩ = _ := fun o => hb0.frozen (p := ⟨g, o, none⟩) (by first | (simp; done) | (simp; omega) | omega)
   have M1 := Asd.mk ((M0.out.below hb0).store l0 (u := .string (mkB (K0))) (by rw [e0.out, t0.out]; exact own_s _ _))
   clear hb0
   have M2 := Asd.mk (M1.out.store l1 (u := .bool (((K0 : Int) + 1) % 3 == 0)) (by rw [e1.out, t1.out]; exact own_bN _ (by unfold m3; first | rfl | (congr 1; omega))))
   have M3 := Asd.mk (M2.out.store l2 (u := .bool (((K0 : Int) + 1 + 1) % 3 == 0)) (by rw [e2.out, t2.out]; exact own_bN _ (by unfold m3; first | rfl | (congr 1; omega))))
   go_wp2_with fail
   refine (markText_callsI (K0 + 1 + 1 + 1) _ _ (by omega) (by omega) (by omega)).mono ?_
   rintro e w3 ⟨rfl, hb3⟩
   have hg4 : g < w3.heap.size := by have := hb3.size; (try simp at this); omega
   have hc3 : ∀ o, w3.cell? ⟨g, o, none⟩ = _ := fun o => hb3.cell (p := ⟨g, o, none⟩) (by first | (simp; done) | (simp; omega) | omega)
   have hf3 : ∀ o, w3.frozen? ⟨g, o, none⟩ = _ := fun o => hb3.frozen (p := ⟨g, o, none⟩) (by first | (simp; done) | (simp; omega) | omega)
   have M4 := Asd.mk ((M3.out.below hb3).store l3 (u := .string (mkB (K0 + 1 + 1 + 1))) (by rw [e3.out, t3.out]; exact own_s _ _))
   clear hb3
   have M5 := Asd.mk (M4.out.store l4 (u := .int .i64 ((K0 : Int) + 1 + 1 + 1 + 1)) (by rw [e4.out, t4.out]; exact own_iN _ _ (by omega)))
   have M6 := Asd.mk (M5.out.store l5 (u := .int .i64 ((K0 : Int) + 1 + 1 + 1 + 1 + 1)) (by rw [e5.out, t5.out]; exact own_iN _ _ (by omega)))
   obtain ⟨v6, F6, o6, d6, g6, c6, back6⟩ := M6.out.nested l6
   replace c6 := Asd.mk c6
   obtain rfl : v6 = u6 := Option.some.inj (c6.out.symm.trans (by go_simp))
   clear c6
   rw [e6.out, t6.out] at back6
   rw [e6.out] at o6
   obtain ⟨A6, C6, rfl, _, _⟩ := own_slice (show own _ (strsT 9 xs[j].Texts) v6 F6 from o6)
   replace o6 := Asd.mk o6
   replace back6 := Asd.mk back6
   replace d6 := Asd.mk d6
   have hx6 := markStringS_calls xs[j].Texts _ F6 (K0 + 1 + 1 + 1 + 1 + 1 + 1) ((K0 : Int) + 1 + 1 + 1 + 1 + 1 + 1) _ (by omega) o6.out d6.out (by omega) (by have := s1.out; omega)
   replace hx6 := Asd.mk hx6
   go_wp2_with fail
   refine hx6.out.mono ?_
   rintro e w6 hM6
   obtain ⟨M7, hc6, hf6⟩ := back6.out _ _ hM6
   have he6 := hM6.1
   rw [s1.out] at he6
   subst he6
   have hg7 : g < w6.heap.size := by have := hM6.2.2.size; (try simp at this); omega
   replace M7 := Asd.mk M7
   clear hM6
   go_wp2
   go_roundw
   case rel => exact ⟨j + 1, by omega, by go_num, by first | (rw [show (j + 1) * 7 = j * 7 + 7 by omega, t7.out]; done) | (rw [show (j + 1) * 7 = j * 7 + 7 by omega, t7.out]; first | rfl | go_num), by rw [show (j + 1) * 7 = j * 7 + 7 by omega]; exact M7.out⟩
   case measure => simp [intOf]; omega
  ·obtain rfl : j = xs.length := by omega
   have e1 := Asd.mk (show kTo (xs.flatMap Run.c) (xs.length * 7) k = k + cnt (RunsT 84 xs) by rw [← hlen.out]; exact kTo_end _ _)
   have M1 := Asd.mk M0.fr
   replace M0 := Asd.mk (MS.fin2 hlen.out.symm M0)
   go_wp2
   go_ret
   exact ⟨by rw [e1.out]; rfl, M0.out, M1.out⟩
set_option maxRecDepth 100000 in
set_option maxHeartbeats 4000000 in
theorem heldRunS_calls (xs : List Run) (v : Value) (F : List Nat) (k : Nat) (n : Int) (w : World) (hn : n = k) (h : own w (mrk (RunsT 84 xs) k) v F) (h0 : 1 ≤ k) (hk : k + cnt (RunsT 84 xs) ≤ 1000000000) :
  Calls Tryz.prog 103 #[v, .int .i64 n] w fun e w' => e = .returned (.int .i64 ((k + cnt (RunsT 84 xs) : Nat) : Int)) ∧ Below w.heap.size w w' := by
 subst hn
 replace h : own w (.l 84 7 xs.length (mrks (xs.flatMap Run.c) k)) v F := h
 obtain ⟨A, c, rfl, _, _⟩ := own_slice h
 have hk2 : k + cnts (xs.flatMap Run.c) ≤ 1000000000 := hk
 have hlen := Asd.mk (show (xs.flatMap Run.c).length = xs.length * 7 from length_flatMap Run.c 7 (fun _ => rfl) xs)
 replace h := Asd.mk h
 clear hk
 go_enter Tryz.func103, Tryz.ntmps103
 go_wp2
 go_loopw [1, 5] (fun kk i wr => ∃ j : Nat, j ≤ xs.length ∧ i = .int .i64 j ∧ kk = .int .i64 ((kTo (xs.flatMap Run.c) (j * 7) k : Nat) : Int) ∧ Below w.heap.size w wr) (fun _ i _ => xs.length - (intOf i).toNat)
 case atStart => exact ⟨0, by omega, rfl, by rw [Nat.zero_mul, kTo_zero], Below.refl _ _⟩
 case round =>
  obtain ⟨j, hj, rfl, rfl, HB⟩ := hrel
  replace HB := Asd.mk HB
  by_cases hlt : j < xs.length
  ·obtain ⟨g, rfl⟩ : ∃ g, A = some ⟨g, 0, none⟩ := by
    obtain ⟨g, c', he, _⟩ := own_form h.out (by omega)
    cases he; exact ⟨g, rfl⟩
   obtain ⟨l0, e0⟩ : ∃ h : j * 7 < (xs.flatMap Run.c).length, (xs.flatMap Run.c)[j * 7] = .s xs[j].Name := fm_at (enc := Run.c) (sz := 7) (q := 0) (fun _ => rfl) hlt (by omega) rfl
   replace e0 := Asd.mk e0
   obtain ⟨l1, e1⟩ : ∃ h : j * 7 + 1 < (xs.flatMap Run.c).length, (xs.flatMap Run.c)[j * 7 + 1] = .b xs[j].Over := fm_at (enc := Run.c) (sz := 7) (q := 1) (fun _ => rfl) hlt (by omega) rfl
   replace e1 := Asd.mk e1
   obtain ⟨l2, e2⟩ : ∃ h : j * 7 + 2 < (xs.flatMap Run.c).length, (xs.flatMap Run.c)[j * 7 + 2] = .b xs[j].Fail := fm_at (enc := Run.c) (sz := 7) (q := 2) (fun _ => rfl) hlt (by omega) rfl
   replace e2 := Asd.mk e2
   obtain ⟨l3, e3⟩ : ∃ h : j * 7 + 3 < (xs.flatMap Run.c).length, (xs.flatMap Run.c)[j * 7 + 3] = .s xs[j].Text := fm_at (enc := Run.c) (sz := 7) (q := 3) (fun _ => rfl) hlt (by omega) rfl
   replace e3 := Asd.mk e3
   obtain ⟨l4, e4⟩ : ∃ h : j * 7 + 4 < (xs.flatMap Run.c).length, (xs.flatMap Run.c)[j * 7 + 4] = .i .i64 xs[j].At := fm_at (enc := Run.c) (sz := 7) (q := 4) (fun _ => rfl) hlt (by omega) rfl
   replace e4 := Asd.mk e4
   obtain ⟨l5, e5⟩ : ∃ h : j * 7 + 5 < (xs.flatMap Run.c).length, (xs.flatMap Run.c)[j * 7 + 5] = .i .i64 xs[j].Visits := fm_at (enc := Run.c) (sz := 7) (q := 5) (fun _ => rfl) hlt (by omega) rfl
   replace e5 := Asd.mk e5
   obtain ⟨l6, e6⟩ : ∃ h : j * 7 + 6 < (xs.flatMap Run.c).length, (xs.flatMap Run.c)[j * 7 + 6] = strsT 9 xs[j].Texts := fm_at (enc := Run.c) (sz := 7) (q := 6) (fun _ => rfl) hlt (by omega) rfl
   replace e6 := Asd.mk e6
   obtain ⟨K0, t0⟩ : ∃ K, kTo (xs.flatMap Run.c) (j * 7) k = K := ⟨_, rfl⟩
   have hKge : k ≤ K0 := by rw [← t0]; exact kTo_ge _ _ _
   have t1 : kTo (xs.flatMap Run.c) (j * 7 + 1) k = K0 + 1 := by rw [show j * 7 + 1 = (j * 7) + 1 from rfl, kTo_succ k l0, e0.out, t0]; rfl
   have t2 : kTo (xs.flatMap Run.c) (j * 7 + 2) k = K0 + 1 + 1 := by rw [show j * 7 + 2 = (j * 7 + 1) + 1 from rfl, kTo_succ k l1, e1.out, t1]; rfl
   have t3 : kTo (xs.flatMap Run.c) (j * 7 + 3) k = K0 + 1 + 1 + 1 := by rw [show j * 7 + 3 = (j * 7 + 2) + 1 from rfl, kTo_succ k l2, e2.out, t2]; rfl
   have t4 : kTo (xs.flatMap Run.c) (j * 7 + 4) k = K0 + 1 + 1 + 1 + 1 := by rw [show j * 7 + 4 = (j * 7 + 3) + 1 from rfl, kTo_succ k l3, e3.out, t3]; rfl
   have t5 : kTo (xs.flatMap Run.c) (j * 7 + 5) k = K0 + 1 + 1 + 1 + 1 + 1 := by rw [show j * 7 + 5 = (j * 7 + 4) + 1 from rfl, kTo_succ k l4, e4.out, t4]; rfl
   have t6 : kTo (xs.flatMap Run.c) (j * 7 + 6) k = K0 + 1 + 1 + 1 + 1 + 1 + 1 := by rw [show j * 7 + 6 = (j * 7 + 5) + 1 from rfl, kTo_succ k l5, e5.out, t5]; rfl
   obtain ⟨K1, s1⟩ : ∃ K, K0 + 1 + 1 + 1 + 1 + 1 + 1 + cnt (strsT 9 xs[j].Texts) = K := ⟨_, rfl⟩
   have t7 : kTo (xs.flatMap Run.c) (j * 7 + 7) k = K1 := by rw [show j * 7 + 7 = (j * 7 + 6) + 1 from rfl, kTo_succ k l6, e6.out, t6]; exact s1
   have z1 : K0 + 1 + 1 + 1 + 1 + 1 + 1 ≤ K1 := by omega
   replace s1 := Asd.mk s1
   have hE : K1 ≤ 1000000000 := by have := kTo_bd (xs.flatMap Run.c) (j * 7 + 7) k; rw [t7] at this; omega
   rw [t0]
   replace t0 := Asd.mk t0
   replace t1 := Asd.mk t1
   replace t2 := Asd.mk t2
   replace t3 := Asd.mk t3
   replace t4 := Asd.mk t4
   replace t5 := Asd.mk t5
   replace t6 := Asd.mk t6
   replace t7 := Asd.mk t7
   obtain ⟨u0, F0, o0, c0⟩ := mrk_cell h.out l0
   rw [e0.out, t0.out] at o0
   obtain rfl : u0 = .string (mkB (K0)) := by
    have h : own w (.s (mkB (K0))) u0 F0 := o0
    simp only [own] at h
    rw [h.1]
   clear o0
   have k0 := Asd.mk (fun (X : World) (hX : Below w.heap.size w X) => cell_below hX c0)
   obtain ⟨u1, F1, o1, c1⟩ := mrk_cell h.out l1
   rw [e1.out, t1.out] at o1
   obtain rfl : u1 = .bool (((K0 : Int) + 1) % 3 == 0) := by
    have h : own w (.b (m3 (K0 + 1))) u1 F1 := o1
    simp only [own] at h
    rw [h.1]
    unfold m3
    first | rfl | (congr 1; omega) | (congr 2; omega)
   clear o1
   have k1 := Asd.mk (fun (X : World) (hX : Below w.heap.size w X) => cell_below hX c1)
   obtain ⟨u2, F2, o2, c2⟩ := mrk_cell h.out l2
   rw [e2.out, t2.out] at o2
   obtain rfl : u2 = .bool (((K0 : Int) + 1 + 1) % 3 == 0) := by
    have h : own w (.b (m3 (K0 + 1 + 1))) u2 F2 := o2
    simp only [own] at h
    rw [h.1]
    unfold m3
    first | rfl | (congr 1; omega) | (congr 2; omega)
   clear o2
   have k2 := Asd.mk (fun (X : World) (hX : Below w.heap.size w X) => cell_below hX c2)
   obtain ⟨u3, F3, o3, c3⟩ := mrk_cell h.out l3
   rw [e3.out, t3.out] at o3
   obtain rfl : u3 = .string (mkB (K0 + 1 + 1 + 1)) := by
    have h : own w (.s (mkB (K0 + 1 + 1 + 1))) u3 F3 := o3
    simp only [own] at h
    rw [h.1]
   clear o3
   have k3 := Asd.mk (fun (X : World) (hX : Below w.heap.size w X) => cell_below hX c3)
   obtain ⟨u4, F4, o4, c4⟩ := mrk_cell h.out l4
   rw [e4.out, t4.out] at o4
   obtain rfl : u4 = .int .i64 ((K0 : Int) + 1 + 1 + 1 + 1) := by
    have h : own w (.i .i64 ((K0 + 1 + 1 + 1 + 1 : Nat) : Int)) u4 F4 := o4
    simp only [own] at h
    rw [h.1]
    congr 1
   clear o4
   have k4 := Asd.mk (fun (X : World) (hX : Below w.heap.size w X) => cell_below hX c4)
   obtain ⟨u5, F5, o5, c5⟩ := mrk_cell h.out l5
   rw [e5.out, t5.out] at o5
   obtain rfl : u5 = .int .i64 ((K0 : Int) + 1 + 1 + 1 + 1 + 1) := by
    have h : own w (.i .i64 ((K0 + 1 + 1 + 1 + 1 + 1 : Nat) : Int)) u5 F5 := o5
    simp only [own] at h
    rw [h.1]
    congr 1
   clear o5
   have k5 := Asd.mk (fun (X : World) (hX : Below w.heap.size w X) => cell_below hX c5)
   obtain ⟨u6, F6, o6, c6⟩ := mrk_cell h.out l6
   rw [e6.out, t6.out] at o6
   replace o6 : own w (mrk (strsT 9 xs[j].Texts) (K0 + 1 + 1 + 1 + 1 + 1 + 1)) u6 F6 := o6
   obtain ⟨A6, C6, rfl, _, _⟩ : ∃ A c, u6 = .slice A (xs[j].Texts).length c ∧ (xs[j].Texts).length ≤ c ∧ (xs[j].Texts).length ≤ 9223372036854775807 := own_slice o6
   replace o6 := Asd.mk o6
   have k6 := Asd.mk (fun (X : World) (hX : Below w.heap.size w X) => cell_below hX c6)
   clear c0 c1 c2 c3 c4 c5 c6
   have r0 := k0.out _ HB.out
   have r1 := k1.out _ HB.out
   have r2 := k2.out _ HB.out
   have r3 := k3.out _ HB.out
   have r4 := k4.out _ HB.out
   have r5 := k5.out _ HB.out
   have r6 := k6.out _ HB.out
   have i0 : (0 : Int) ≤ (j : Int) := by omega
   have i1 : (j : Int) < (xs.length : Int) := by omega
   go_wp2
   go_region_held3 (fun X => X.cell? ⟨g, j * 7, none⟩ = some (.string (mkB (K0)))) ((refine k0.out _ ?_; (repeat first|with_reducible (first|exact Below.refl _ _|exact HB.out|exact hb5.out|refine below_al ?_ _|refine below_dr ?_ _|refine below_d1 ?_)|(with_reducible refine Below.setCell ?_ ?_ _;rotate_left;next => first|(simp;done)|(simp;omega)|omega)); done))
    ((go_at_call 87; refine (markText_callsI (K0) _ _ (by omega) (by omega) (by omega)).mono ?_; rintro e w0 ⟨rfl, hb⟩; have hb5 := Asd.mk (below_st (w := w) (by repeat first|with_reducible (first|exact Below.refl _ _|exact HB.out|refine below_al ?_ _|refine below_dr ?_ _|refine below_d1 ?_)|(with_reducible refine Below.setCell ?_ ?_ _;rotate_left;next => first|(simp;done)|(simp;omega)|omega)) hb); clear hb))
   have HB0 := Asd.mk (show Below w.heap.size w w0 from by repeat first|with_reducible (first|exact Below.refl _ _|exact hb5.out|refine below_al ?_ _|refine below_dr ?_ _|refine below_d1 ?_)|(with_reducible refine Below.setCell ?_ ?_ _;rotate_left;next => first|(simp;done)|(simp;omega)|omega))
   clear hb5
   replace r0 := k0.out _ HB0.out
   replace r1 := k1.out _ HB0.out
   replace r2 := k2.out _ HB0.out
   replace r3 := k3.out _ HB0.out
   replace r4 := k4.out _ HB0.out
   replace r5 := k5.out _ HB0.out
   replace r6 := k6.out _ HB0.out
   go_wp2
   go_region_held3 (fun X => X.cell? ⟨g, j * 7 + 3, none⟩ = some (.string (mkB (K0 + 1 + 1 + 1)))) ((refine k3.out _ ?_; (repeat first|with_reducible (first|exact Below.refl _ _|exact HB0.out|exact hb5.out|refine below_al ?_ _|refine below_dr ?_ _|refine below_d1 ?_)|(with_reducible refine Below.setCell ?_ ?_ _;rotate_left;next => first|(simp;done)|(simp;omega)|omega)); done))
    ((go_at_call 87; refine (markText_callsI (K0 + 1 + 1 + 1) _ _ (by omega) (by omega) (by omega)).mono ?_; rintro e w3 ⟨rfl, hb⟩; have hb5 := Asd.mk (below_st (w := w) (by repeat first|with_reducible (first|exact Below.refl _ _|exact HB0.out|refine below_al ?_ _|refine below_dr ?_ _|refine below_d1 ?_)|(with_reducible refine Below.setCell ?_ ?_ _;rotate_left;next => first|(simp;done)|(simp;omega)|omega)) hb); clear hb))
   have HB3 := Asd.mk (show Below w.heap.size w w3 from by repeat first|with_reducible (first|exact Below.refl _ _|exact hb5.out|refine below_al ?_ _|refine below_dr ?_ _|refine below_d1 ?_)|(with_reducible refine Below.setCell ?_ ?_ _;rotate_left;next => first|(simp;done)|(simp;omega)|omega))
   clear hb5
   replace r0 := k0.out _ HB3.out
   replace r1 := k1.out _ HB3.out
   replace r2 := k2.out _ HB3.out
   replace r3 := k3.out _ HB3.out
   replace r4 := k4.out _ HB3.out
   replace r5 := k5.out _ HB3.out
   replace r6 := k6.out _ HB3.out
   go_wp2_with fail
   refine (heldStringS_calls xs[j].Texts _ F6 (K0 + 1 + 1 + 1 + 1 + 1 + 1) _ _ (by omega) (o6.out.below (by repeat first|with_reducible (first|exact Below.refl _ _|exact HB3.out|refine below_al ?_ _|refine below_dr ?_ _|refine below_d1 ?_)|(with_reducible refine Below.setCell ?_ ?_ _;rotate_left;next => first|(simp;done)|(simp;omega)|omega))) (by omega) (by have := s1.out; omega)).mono ?_
   rintro e w6 ⟨he, hb⟩
   rw [s1.out] at he
   subst he
   have HB6 := Asd.mk (below_st (w := w) (by repeat first|with_reducible (first|exact Below.refl _ _|exact HB3.out|refine below_al ?_ _|refine below_dr ?_ _|refine below_d1 ?_)|(with_reducible refine Below.setCell ?_ ?_ _;rotate_left;next => first|(simp;done)|(simp;omega)|omega)) hb)
   clear hb
   replace r0 := k0.out _ HB6.out
   replace r1 := k1.out _ HB6.out
   replace r2 := k2.out _ HB6.out
   replace r3 := k3.out _ HB6.out
   replace r4 := k4.out _ HB6.out
   replace r5 := k5.out _ HB6.out
   replace r6 := k6.out _ HB6.out
   go_wp2
   go_roundw
   case rel => exact ⟨j + 1, by omega, by go_num, by first | (rw [show (j + 1) * 7 = j * 7 + 7 by omega, t7.out]; done) | (rw [show (j + 1) * 7 = j * 7 + 7 by omega, t7.out]; first | rfl | go_num), HB6.out⟩
   case measure => simp [intOf]; omega
  ·obtain rfl : j = xs.length := by omega
   have e1 := Asd.mk (show kTo (xs.flatMap Run.c) (xs.length * 7) k = k + cnt (RunsT 84 xs) by rw [← hlen.out]; exact kTo_end _ _)
   go_wp2
   go_ret
   exact ⟨by rw [e1.out]; rfl, HB.out⟩
set_option maxRecDepth 100000 in
set_option maxHeartbeats 2000000 in
theorem markState_calls (x : State) (lo hi k : Nat) (n : Int) (w : World) (hn : n = k) {vs : List Value} (h : Iv lo hi w (x.c 84) vs) (h0 : 1 ≤ k) (hk : k + cntl (x.c 84) ≤ 1000000000) :
  Calls Tryz.prog 38 #[.agg vs.toArray, .int .i64 n] w (MrkI (x.c 84) vs lo hi k w) := by
 subst hn
 obtain ⟨F, o, hd, hF⟩ := h
 obtain ⟨v0, F0, v1, F1, rfl, p0, p1, hf_⟩ := State.oopen o
 obtain rfl := hf_.symm
 clear o
 obtain ⟨A0, c0, rfl, _, _⟩ := own_slice p0
 obtain ⟨A1, c1, rfl, _, _⟩ := own_slice p1
 have ec := Asd.mk (show cntl (x.c 84) = cnt (strsT 9 x.Roots) + (cnt (RunsT 84 x.Runs) + 0) from rfl)
 rw [ec.out] at hk
 obtain ⟨K0, hK0⟩ : ∃ K, k + cnt (strsT 9 x.Roots) = K := ⟨_, rfl⟩
 have z0 : k ≤ K0 := by omega
 obtain ⟨K1, hK1⟩ : ∃ K, K0 + cnt (RunsT 84 x.Runs) = K := ⟨_, rfl⟩
 have z1 : K0 ≤ K1 := by omega
 have eK := Asd.mk (show k + cntl (x.c 84) = K1 by rw [ec.out]; omega)
 have hk2 : K1 ≤ 1000000000 := by omega
 clear hk
 replace hK0 := Asd.mk hK0
 replace hK1 := Asd.mk hK1
 have l0 := p0.lt
 have l1 := p1.lt
 obtain ⟨nl1, nn1, nd1⟩ := List.nodup_append.1 hd
 have nn0 := nl1
 have dj0_1 : ∀ b ∈ F0, b ∉ F1 := fun b h1 h2 => nd1 b (by first | exact h1 | simp [h1]) b h2 rfl
 have dj1_0 : ∀ b ∈ F1, b ∉ F0 := fun b h1 h2 => nd1 b (by first | exact h2 | simp [h2]) b h1 rfl
 replace p0 := Asd.mk p0
 replace l0 := Asd.mk l0
 replace nn0 := Asd.mk nn0
 replace p1 := Asd.mk p1
 replace l1 := Asd.mk l1
 replace nn1 := Asd.mk nn1
 replace dj0_1 := Asd.mk dj0_1
 replace dj1_0 := Asd.mk dj1_0
 replace hF := Asd.mk hF
 go_enter Tryz.func38, Tryz.ntmps38
 go_wp2_with fail
 refine (markStringS_calls x.Roots _ F0 (k) (k : Int) _ rfl (p0.out.below (by repeat first|with_reducible (first|exact Below.refl _ _|exact Below.refl _ _|refine below_al ?_ _|refine below_dr ?_ _|refine below_d1 ?_)|(with_reducible refine Below.setCell ?_ ?_ _;rotate_left;next => first|(simp;done)|(simp;omega)|omega))) nn0.out (by omega) (by have := hK0.out; omega)).mono ?_
 rintro e w0 ⟨he, ⟨G0, o0, d0, s0⟩, m0⟩
 rw [hK0.out] at he
 subst he
 have b0_0 : w0.cell? ⟨w.heap.size, 0, none⟩ = some (.slice A0 (x.Roots).length c0) := by
  rw [m0.cell (by first | (simp; done) | (simp; omega) | omega) (fun hb => by have := l0.out _ hb; omega)]; first | exact bx_0 | go_simp
 have b0_1 : w0.cell? ⟨w.heap.size, 1, none⟩ = some (.slice A1 (x.Runs).length c1) := by
  rw [m0.cell (by first | (simp; done) | (simp; omega) | omega) (fun hb => by have := l0.out _ hb; omega)]; first | exact bx_1 | go_simp
 have y0 : w.heap.size < w0.heap.size := by have := m0.size; (try simp at this); omega
 have q0_1 := Asd.mk (m0.own (p1.out.below (by repeat first|with_reducible (first|exact Below.refl _ _|exact Below.refl _ _|refine below_al ?_ _|refine below_dr ?_ _|refine below_d1 ?_)|(with_reducible refine Below.setCell ?_ ?_ _;rotate_left;next => first|(simp;done)|(simp;omega)|omega))) dj1_0.out)
 have M0 := Asd.mk (MFr.trans (F := F0 ++ F1) (MFr.of_below (show Below w.heap.size w _ from by repeat first|with_reducible (first|exact Below.refl _ _|exact Below.refl _ _|refine below_al ?_ _|refine below_dr ?_ _|refine below_d1 ?_)|(with_reducible refine Below.setCell ?_ ?_ _;rotate_left;next => first|(simp;done)|(simp;omega)|omega))) (m0.mono (fun b hb => by simp [hb])))
 replace o0 := Asd.mk o0
 replace d0 := Asd.mk d0
 replace s0 := Asd.mk s0
 clear m0
 go_wp2_with fail
 refine (markRunS_calls x.Runs _ F1 (K0) (K0 : Int) _ rfl (q0_1.out.below (by repeat first|with_reducible (first|exact Below.refl _ _|exact Below.refl _ _|refine below_al ?_ _|refine below_dr ?_ _|refine below_d1 ?_)|(with_reducible refine Below.setCell ?_ ?_ _;rotate_left;next => first|(simp;done)|(simp;omega)|omega))) nn1.out (by omega) (by have := hK1.out; omega)).mono ?_
 rintro e w1 ⟨he, ⟨G1, o1, d1, s1⟩, m1⟩
 rw [hK1.out] at he
 subst he
 have b1_0 : w1.cell? ⟨w.heap.size, 0, none⟩ = some (.slice A0 (x.Roots).length c0) := by
  rw [m1.cell (by first | (simp; done) | (simp; omega) | omega) (fun hb => by have := l1.out _ hb; omega)]; first | exact b0_0 | go_simp
 have b1_1 : w1.cell? ⟨w.heap.size, 1, none⟩ = some (.slice A1 (x.Runs).length c1) := by
  rw [m1.cell (by first | (simp; done) | (simp; omega) | omega) (fun hb => by have := l1.out _ hb; omega)]; first | exact b0_1 | go_simp
 have y1 : w.heap.size < w1.heap.size := by have := m1.size; (try simp at this); omega
 have M1 := Asd.mk (M0.out.trans (MFr.trans (MFr.of_below (by repeat first|with_reducible (first|exact Below.refl _ _|exact Below.refl _ _|refine below_al ?_ _|refine below_dr ?_ _|refine below_d1 ?_)|(with_reducible refine Below.setCell ?_ ?_ _;rotate_left;next => first|(simp;done)|(simp;omega)|omega))) (m1.mono (fun b hb => by simp [hb]))))
 replace o1 := Asd.mk o1
 replace d1 := Asd.mk d1
 replace s1 := Asd.mk s1
 have o0 := Asd.mk (m1.own (o0.out.below (by repeat first|with_reducible (first|exact Below.refl _ _|exact Below.refl _ _|refine below_al ?_ _|refine below_dr ?_ _|refine below_d1 ?_)|(with_reducible refine Below.setCell ?_ ?_ _;rotate_left;next => first|(simp;done)|(simp;omega)|omega))) (fun b hb => dj0_1.out b (s0.out b hb)))
 clear m1
 go_wp2_with fail
 go_ret
 have z := M1.out
 refine ⟨by rw [eK.out]; try rfl, ⟨G0 ++ G1, ?_, ?_, ?_⟩, ?_⟩
 ·show owns _ [mrk (strsT 9 x.Roots) (k), mrk (RunsT 84 x.Runs) (k + cnt (strsT 9 x.Roots))] _ _
  rw [hK0.out]
  simp only [owns]
  have hz : (G0 ++ (G1 ++ [])) = G0 ++ G1 := by simp
  rw [← hz]
  exact ⟨_, _, G0, _, rfl, o0.out.below (by repeat first|with_reducible (first|exact Below.refl _ _|exact Below.refl _ _|refine below_al ?_ _|refine below_dr ?_ _|refine below_d1 ?_)|(with_reducible refine Below.setCell ?_ ?_ _;rotate_left;next => first|(simp;done)|(simp;omega)|omega)), ⟨_, _, G1, _, rfl, o1.out.below (by repeat first|with_reducible (first|exact Below.refl _ _|exact Below.refl _ _|refine below_al ?_ _|refine below_dr ?_ _|refine below_d1 ?_)|(with_reducible refine Below.setCell ?_ ?_ _;rotate_left;next => first|(simp;done)|(simp;omega)|omega)), ⟨rfl, rfl⟩, rfl⟩, rfl⟩
 ·exact (nod2 d0.out d1.out (fun b h1 h2 => dj0_1.out b (s0.out b h1) (s1.out b h2)))
 ·intro b hb
  refine hF.out b ?_
  try simp only [List.mem_append] at hb ⊢
  rcases hb with h | h
  ·exact .inl (s0.out b h)
  ·exact .inr (s1.out b h)
 ·exact ⟨z.os, z.tape, z.output, z.size, fun b hb ho => z.block b hb (fun hf => by have := hF.out b hf; omega)⟩
set_option maxRecDepth 100000 in
set_option maxHeartbeats 2000000 in
theorem heldState_calls (x : State) (lo hi k : Nat) (n : Int) (w : World) (hn : n = k) {vs : List Value} (h : Iv lo hi w (mrkl (x.c 84) k) vs) (h0 : 1 ≤ k) (hk : k + cntl (x.c 84) ≤ 1000000000) :
  Calls Tryz.prog 51 #[.agg vs.toArray, .int .i64 n] w fun e w' => e = .returned (.int .i64 ((k + cntl (x.c 84) : Nat) : Int)) ∧ Below w.heap.size w w' := by
 subst hn
 obtain ⟨F, o, hd, hF⟩ := h
 replace o : owns w [mrk (strsT 9 x.Roots) (k), mrk (RunsT 84 x.Runs) (k + cnt (strsT 9 x.Roots))] vs F := o
 simp only [owns] at o
 obtain ⟨v0, _, F0, _, rfl, p0, ⟨v1, _, F1, _, rfl, p1, ⟨rfl, rfl⟩, rfl⟩, rfl⟩ := o
 clear hd hF
 obtain ⟨A0, c0, rfl, _, _⟩ : ∃ A c, v0 = .slice A (x.Roots).length c ∧ (x.Roots).length ≤ c ∧ (x.Roots).length ≤ 9223372036854775807 := own_slice p0
 obtain ⟨A1, c1, rfl, _, _⟩ : ∃ A c, v1 = .slice A (x.Runs).length c ∧ (x.Runs).length ≤ c ∧ (x.Runs).length ≤ 9223372036854775807 := own_slice p1
 have ec := Asd.mk (show cntl (x.c 84) = cnt (strsT 9 x.Roots) + (cnt (RunsT 84 x.Runs) + 0) from rfl)
 rw [ec.out] at hk
 obtain ⟨K0, hK0⟩ : ∃ K, k + cnt (strsT 9 x.Roots) = K := ⟨_, rfl⟩
 have z0 : k ≤ K0 := by omega
 obtain ⟨K1, hK1⟩ : ∃ K, K0 + cnt (RunsT 84 x.Runs) = K := ⟨_, rfl⟩
 have z1 : K0 ≤ K1 := by omega
 have eK := Asd.mk (show k + cntl (x.c 84) = K1 by rw [ec.out]; omega)
 have hk2 : K1 ≤ 1000000000 := by omega
 clear hk
 replace hK0 := Asd.mk hK0
 replace hK1 := Asd.mk hK1
 have l0 := p0.lt
 have l1 := p1.lt
 rw [hK0.out] at p1
 replace p0 := Asd.mk p0
 clear l0
 replace p1 := Asd.mk p1
 clear l1
 have h1 : ¬((K0 : Int) < 0) := by omega
 have h2 : ¬((K1 : Int) < 0) := by omega
 go_enter Tryz.func51, Tryz.ntmps51
 go_wp2_with fail
 refine (heldStringS_calls x.Roots _ F0 (k) (k : Int) _ rfl (p0.out.below (by repeat first|with_reducible (first|exact Below.refl _ _|exact Below.refl _ _|refine below_al ?_ _|refine below_dr ?_ _|refine below_d1 ?_)|(with_reducible refine Below.setCell ?_ ?_ _;rotate_left;next => first|(simp;done)|(simp;omega)|omega))) (by omega) (by have := hK0.out; omega)).mono ?_
 rintro e w0 ⟨rfl, hb⟩
 have HB0 := Asd.mk (below_st (show Below w.heap.size w _ from by repeat first|with_reducible (first|exact Below.refl _ _|exact Below.refl _ _|refine below_al ?_ _|refine below_dr ?_ _|refine below_d1 ?_)|(with_reducible refine Below.setCell ?_ ?_ _;rotate_left;next => first|(simp;done)|(simp;omega)|omega)) hb)
 rw [hK0.out]
 have b0_0 : w0.cell? ⟨w.heap.size, 0, none⟩ = some (.slice A0 (x.Roots).length c0) := by
  rw [hb.cell (by first | (simp; done) | (simp; omega) | omega)]; first | exact bx_0 | go_simp
 have b0_1 : w0.cell? ⟨w.heap.size, 1, none⟩ = some (.slice A1 (x.Runs).length c1) := by
  rw [hb.cell (by first | (simp; done) | (simp; omega) | omega)]; first | exact bx_1 | go_simp
 have y0 : w.heap.size < w0.heap.size := by have := hb.size; (try simp at this); omega
 clear hb
 go_wp2_with fail
 refine (heldRunS_calls x.Runs _ F1 (K0) (K0 : Int) _ rfl (p1.out.below (by repeat first|with_reducible (first|exact Below.refl _ _|exact HB0.out|refine below_al ?_ _|refine below_dr ?_ _|refine below_d1 ?_)|(with_reducible refine Below.setCell ?_ ?_ _;rotate_left;next => first|(simp;done)|(simp;omega)|omega))) (by omega) (by have := hK1.out; omega)).mono ?_
 rintro e w1 ⟨rfl, hb⟩
 have HB1 := Asd.mk (below_st (show Below w.heap.size w _ from by repeat first|with_reducible (first|exact Below.refl _ _|exact HB0.out|refine below_al ?_ _|refine below_dr ?_ _|refine below_d1 ?_)|(with_reducible refine Below.setCell ?_ ?_ _;rotate_left;next => first|(simp;done)|(simp;omega)|omega)) hb)
 rw [hK1.out]
 have b1_0 : w1.cell? ⟨w.heap.size, 0, none⟩ = some (.slice A0 (x.Roots).length c0) := by
  rw [hb.cell (by first | (simp; done) | (simp; omega) | omega)]; first | exact b0_0 | go_simp
 have b1_1 : w1.cell? ⟨w.heap.size, 1, none⟩ = some (.slice A1 (x.Runs).length c1) := by
  rw [hb.cell (by first | (simp; done) | (simp; omega) | omega)]; first | exact b0_1 | go_simp
 have y1 : w.heap.size < w1.heap.size := by have := hb.size; (try simp at this); omega
 clear hb
 go_wp2_with fail
 go_ret
 exact ⟨by rw [eK.out]; try rfl, HB1.out⟩
end Go.Proofs.YtkpkfihaihoaeaaGreatDoor.M
end
section
set_option linter.unusedVariables false
set_option linter.unusedSimpArgs false
namespace Go.Proofs.YtkpkfihaihoaeaaGreatDoor.M
open Go.RowKit
theorem strs_cnt (t : Nat) (xs : List ByteArray) : cnt (strsT t xs) ≤ bkS xs := by
 have := cnts_flat strC ByteArray.size 1 (by omega) xs (fun x _ => by simp [strC, cnts, cnt])
 unfold bkS bsOf
 show cnts (xs.flatMap strC) ≤ _
 omega
theorem Case.cnt_le (x : Case) : cnts x.c ≤ 2 * (1 + x.bk) := by simp [Case.c, cnts, cnt]; omega
theorem Cases.cnt_le (t : Nat) (xs : List Case) : cnt (CasesT t xs) ≤ 2 * Case.bs xs := by
 have := cnts_flat Case.c Case.bk 2 (by omega) xs (fun x _ => x.cnt_le)
 show cnts (xs.flatMap Case.c) ≤ _
 unfold Case.bs bsOf; omega
theorem Step.cnt_le (c : Nat) (x : Step) : cnts (x.c c) ≤ 6 * (1 + x.bk) := by
 have h1 := strs_cnt 9 x.Asks
 have h2 := Cases.cnt_le c x.Cases
 simp only [Step.c, cnts]
 simp only [cnt] at h1 h2 ⊢
 unfold Step.bk
 have e1 : cnt (strsT 9 x.Asks) = cnts (x.Asks.flatMap strC) := rfl
 have e2 : cnt (CasesT c x.Cases) = cnts (x.Cases.flatMap Case.c) := rfl
 omega
theorem Steps.cnt_le (s c : Nat) (xs : List Step) : cnt (StepsT s c xs) ≤ 6 * Step.bs xs := by
 have := cnts_flat (Step.c c) Step.bk 6 (by omega) xs (fun x _ => x.cnt_le c)
 show cnts (xs.flatMap (Step.c c)) ≤ _
 unfold Step.bs bsOf; omega
theorem Node.cnt_le (s c : Nat) (x : Node) : cnts (x.c s c) ≤ 6 * (1 + x.bk) := by
 have h2 := Steps.cnt_le s c x.Action.Steps
 simp only [Node.c, cnts]
 have e1 : cnt (.s x.Name) = 1 := by simp [cnt]
 have e2 : cnt (.i .i64 x.Action.Cost) = 1 := by simp [cnt]
 unfold Node.bk Action.bk
 omega
theorem Nodes.cnt_le (n s c : Nat) (xs : List Node) : cnt (NodesT n s c xs) ≤ 6 * Node.bs xs := by
 have := cnts_flat (Node.c s c) Node.bk 6 (by omega) xs (fun x _ => x.cnt_le s c)
 show cnts (xs.flatMap (Node.c s c)) ≤ _
 unfold Node.bs bsOf; omega
theorem Web.cnt_le {n s c : Nat} (x : Web) : cntl (x.c n s c) ≤ 6 * x.bk := by
 have := Nodes.cnt_le n s c x.Nodes
 show cntl [NodesT n s c x.Nodes] ≤ _
 unfold Web.bk
 have e : cntl [NodesT n s c x.Nodes] = cnt (NodesT n s c x.Nodes) := cntl_one _ _ _ _
 omega
theorem bs_filter (p : Node → Bool) : ∀ (xs : List Node), Node.bs (xs.filter p) ≤ Node.bs xs
 | [] => Nat.le_refl _
 | x :: xs => by
  have ih := bs_filter p xs
  unfold Node.bs bsOf at *
  rw [List.filter_cons]
  split <;> simp only [List.length_cons, List.map_cons, List.sum_cons] <;> omega
theorem dropWeb_cnt {n s c : Nat} (x : Web) (name : ByteArray) : cntl ((dropWeb x name).1.c n s c) ≤ 6 * x.bk := by
 refine Nat.le_trans (Web.cnt_le _) (Nat.mul_le_mul_left _ ?_)
 unfold Web.bk dropWeb
 split
 ·simp [Node.bs, bsOf]
 ·split
  ·simp [Node.bs, bsOf]
  ·split
   ·simp [Node.bs, bsOf]
   ·exact bs_filter _ _
theorem Web.zsm {x : Web} (h : x.Zm) : x.Sm := fun n hn s hs => ((h n hn).2 s hs).2.2
theorem Far.trans3 {lo hi : Nat} {w W w' : World} (hb : Below w.heap.size w W) (h : Far lo hi W w') (hB : w.heap.size ≤ lo ∨ hi = 0) : Below w.heap.size w w' := Far.trans2 hb h hB hb.size
end Go.Proofs.YtkpkfihaihoaeaaGreatDoor.M
end
section
set_option linter.unusedVariables false
set_option linter.unusedSimpArgs false
namespace Go.Proofs.YtkpkfihaihoaeaaGreatDoor.M
open Go.RowKit
theorem runs_cnt (t : Nat) (b : Run → Nat) (xs : List Run) (h : ∀ r ∈ xs, r.Texts.length ≤ b r) : cnt (RunsT t xs) ≤ 6 * (xs.length + (xs.map b).sum) := by
 refine cnts_flat Run.c b 6 (by omega) xs (fun r hr => ?_)
 have h1 := h r hr
 have e : cnts (Run.c r) = 6 + cnts (r.Texts.flatMap strC) := by simp [Run.c, cnts, cnt, strsT, tl]; omega
 have h2 : cnts (r.Texts.flatMap strC) ≤ 1 * (r.Texts.length + (r.Texts.map (fun _ => 0)).sum) := cnts_flat strC (fun _ => 0) 1 (by omega) r.Texts (fun x _ => by simp [strC, cnts, cnt])
 have e3 : (r.Texts.map (fun _ => 0)).sum = 0 := by
  generalize r.Texts = l
  induction l with
  | nil => rfl
  | cons x l ih => simp [ih]
 rw [e3] at h2
 rw [e]
 omega
theorem startS_cnt (t : Nat) (W : Web) (roots : List ByteArray) : cntl ((startS W roots).c t) ≤ 6 * W.bk + bkS roots := by
 unfold startS
 split
 ·rename_i h
  have h1 := strs_cnt 9 roots
  have h2 := runs_cnt t (fun _ => 0) (begin_ W roots) (fun r hr => by obtain ⟨q, rfl, _⟩ := begin_fresh hr; simp [newRun])
  have h3 := begin_len h.1 roots
  have e3 : ((begin_ W roots).map (fun _ => 0)).sum = 0 := by
   generalize begin_ W roots = l
   induction l with
   | nil => rfl
   | cons x l ih => simp [ih]
  rw [e3] at h2
  have h4 : W.Nodes.length ≤ W.bk := by unfold Web.bk Node.bs bsOf; omega
  show cnt (strsT 9 roots) + (cnt (RunsT t (begin_ W roots)) + 0) ≤ _
  omega
 ·show cnt (strsT 9 []) + (cnt (RunsT t []) + 0) ≤ _
  simp [cnt, strsT, RunsT, tl, cnts]
end Go.Proofs.YtkpkfihaihoaeaaGreatDoor.M
end
