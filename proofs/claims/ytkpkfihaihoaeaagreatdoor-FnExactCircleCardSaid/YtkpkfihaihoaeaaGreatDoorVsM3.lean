/- Texts put together: Contracts: the reference's search by name. Contracts: the reference wants names. Contracts: strconv.FormatUint in base 16. Plain functions: Finish. Plain functions: what a unit of work does to runs. Contracts: the engine's action of a name. Contracts: the engine's answer of a name. Contracts: the laws' own types. Contracts: the engine's answers to a step. Contracts: the reference's answer of a name. Plain functions: going on as long as something goes on. Plain functions: a run on its way through a unit of work. Contracts: the engine says whether a run is ready. Contracts: what of the engine's runs is ready. Contracts: the reference's answers to a step, and the texts that did not fail. Contracts: the reference says which runs of a state can go on. Contracts: steps and actions. Contracts: ValidAction. Contracts: follow. Contracts: the reference's GoOn. Contracts: the reference's Finish. -/
import Derived.Test.YtkpkfihaihoaeaaGreatDoorVsM2
import Derived.Deep.DrawnRows
import Derived.Laws.BitsLemmas
import Derived.Laws.Bits64
import Derived.Laws.BytesArg
import Derived.Test.YtkpkfihaihoaeaaGreatDoorProg
import Derived.Lib.Join
import Derived.Lib.Repeat
import Derived.Deep.RegionHeld3
import Derived.StillTailTactics
section
set_option linter.unusedVariables false
set_option linter.unusedSimpArgs false
attribute [local go_sem ↓] Go.wp_at_zero Go.wp_at_succ
namespace Go.Proofs.YtkpkfihaihoaeaaGreatDoor.M
open Go.RowKit
set_option maxHeartbeats 1000000 in
theorem l2At_calls {tN tS tC : Nat} (x : Web) (name : ByteArray) (w : World) {vs : List Value} (h : reps w (x.c tN tS tC) vs) :
  Calls Tryz.prog 91 #[.agg vs.toArray, .string name] w fun e w' => e = .returned (.int .i64 (atN x.Nodes name)) ∧ Below w.heap.size w w' := by
 obtain ⟨v0, rfl, h0⟩ := Web.ropen h
 obtain ⟨A, c, rfl, _, hle⟩ := rep_len h0
 replace h0 := Asd.mk h0
 clear h
 go_enter Tryz.func91, Tryz.ntmps91
 go_wp2
 go_loop [5] (fun i => ∃ k : Nat, k ≤ x.Nodes.length ∧ i = .int .i64 k ∧ noTo x.Nodes name k) (fun i => x.Nodes.length - (intOf i).toNat)
 case atStart => exact ⟨0, by omega, rfl, noTo_zero _ _⟩
 case round =>
  obtain ⟨k, hk, rfl, hA⟩ := hrel
  by_cases hlt : k < x.Nodes.length
  ·obtain ⟨a, c', v2, he, k0, k1, k2, h2, hr⟩ := Node.elem (h0.out.below (below_al (Below.refl _ _) (.cells #[.slice A x.Nodes.length c] 34))) hlt
   cases he
   clear h2 hr k1 k2
   by_cases hq : (x.Nodes[k].Name.toList == name.toList) = true
   ·have e1 := Asd.mk (atN_yes hA hlt hq)
    go_wp2
    go_ret
    exact ⟨by rw [e1.out]; rfl, below_al (Below.refl _ _) _⟩
   ·replace hq := Bool.eq_false_iff.2 hq
    have e1 := noTo_succ hA hlt hq
    go_wp2
    go_round
    case rel => exact ⟨k + 1, by omega, by go_num, e1⟩
    case measure => simp [intOf]; omega
  ·obtain rfl : k = x.Nodes.length := by omega
   have e1 := Asd.mk (atN_no hA)
   go_wp2
   go_ret
   exact ⟨by rw [e1.out]; rfl, below_al (Below.refl _ _) _⟩
end Go.Proofs.YtkpkfihaihoaeaaGreatDoor.M
end
section
set_option linter.unusedVariables false
set_option linter.unusedSimpArgs false
attribute [local go_sem ↓] Go.wp_at_zero Go.wp_at_succ
namespace Go.Proofs.YtkpkfihaihoaeaaGreatDoor.M
open Go.RowKit
/-- what is known, in memory: kb the block of it, rv its runs' row -/
structure Kn (lo : Nat) (w : World) (kb : Nat) (A : Option Addr) (n c : Nat) (l : List Run) (rv : Value) : Prop where
 cells : w.heap[kb]? = some (.cells #[.slice A n c, rv] 108 (0, 0))
 row : RowN [kb] lo w 84 7 l.length (l.flatMap Run.c) rv
 apart : ∀ k, rv.ownBlock = some k → k ≠ kb
theorem Kn.later {lo : Nat} {w w' : World} {kb : Nat} {A : Option Addr} {n c : Nat} {l : List Run} {rv : Value} (h : Kn lo w kb A n c l rv) (hb : Below w.heap.size w w') : Kn lo w' kb A n c l rv :=
 ⟨(hb.block kb (lt_of_heap h.cells)).trans h.cells, h.row.later hb, h.apart⟩
def KnP (lo : Nat) (w : World) (kb : Nat) (A : Option Addr) (n c : Nat) (l : List Run) (N : List Nat) (w' : World) : Prop := ∃ rv, Kn lo w' kb A n c l rv ∧ MFr N w w' ∧ ∀ k, rv.ownBlock = some k → k ∈ N ∨ w.heap.size ≤ k
theorem wantU_has {W : Web} {l : List Run} {q : ByteArray} {r : Run} (h : runOf l q = some r) : wantU W l q = l := by unfold wantU; rw [h]; simp
theorem wantU_out {W : Web} {l : List Run} {q : ByteArray} (h : hasN W.Nodes q = false) : wantU W l q = l := by unfold wantU; rw [h]; simp
theorem wantU_new {W : Web} {l : List Run} {q : ByteArray} (h : hasN W.Nodes q = true) (h2 : runOf l q = none) : wantU W l q = l ++ [newRun q] := by unfold wantU; rw [h, h2]; simp
theorem MFr.part {N Z : List Nat} {w w1 w2 : World} (h : MFr N w w1) (k : MFr Z w1 w2) (hM : ∀ b ∈ Z, b ∈ N ∨ w.heap.size ≤ b) : MFr N w w2 :=
 ⟨k.os.trans h.os, k.tape.trans h.tape, k.output.trans h.output, Nat.le_trans h.size k.size, fun b hb hn => (k.block b (Nat.lt_of_lt_of_le hb h.size) (fun hf => (hM b hf).elim hn (fun h2 => by omega))).trans (h.block b hb hn)⟩
def wuTo (W : Web) (l : List Run) (qs : List ByteArray) (k : Nat) : List Run := wantsU W l (qs.take k)
theorem wuTo_zero (W : Web) (l : List Run) (qs : List ByteArray) : wuTo W l qs 0 = l := rfl
theorem wuTo_succ {W : Web} {l : List Run} {qs : List ByteArray} {k : Nat} (h : k < qs.length) : wuTo W l qs (k + 1) = wantU W (wuTo W l qs k) qs[k] := by
 unfold wuTo wantsU; rw [List.take_succ_eq_append_getElem h, List.foldl_append]; rfl
theorem wuTo_end (W : Web) (l : List Run) (qs : List ByteArray) : wuTo W l qs qs.length = wantsU W l qs := by unfold wuTo; rw [List.take_length]
theorem wuTo_len (W : Web) (l : List Run) (qs : List ByteArray) : ∀ k, (wuTo W l qs k).length ≤ l.length + k
 | 0 => by simp [wuTo_zero]
 | k + 1 => by
  rcases Nat.lt_or_ge k qs.length with h | h
  ·rw [wuTo_succ h]
   have := wuTo_len W l qs k
   unfold wantU
   split
   ·simp; omega
   ·omega
  ·have e : wuTo W l qs (k + 1) = wuTo W l qs k := by unfold wuTo; rw [List.take_of_length_le (by omega), List.take_of_length_le (by omega)]
   rw [e]; have := wuTo_len W l qs k; omega
theorem atN_out {xs : List Node} {q : ByteArray} (h : hasN xs q = false) : atN xs q = -1 := by
 refine atN_no (fun i hi _ => ?_)
 rw [Bool.eq_false_iff]
 intro hx
 unfold nmB at hx
 have : hasN xs q = true := (hasN_iff xs q).2 ⟨xs[i], List.getElem_mem hi, (ba_eq _ _).1 hx⟩
 rw [this] at h; cases h
theorem newRun_reps (N : List Nat) (w : World) (q : ByteArray) : repsS N w (Run.c (newRun q)) [.string q, .bool false, .bool false, .string ⟨#[]⟩, .int .i64 0, .int .i64 0, .slice none 0 0] :=
 fun w' _ => Run.rmk (newRun q) (own_nil w' _ _).rep
set_option maxRecDepth 100000 in
set_option maxHeartbeats 4000000 in
theorem want3_calls {lo tN tS tC ts : Nat} (W : Web) (l : List Run) (qs : List ByteArray) (kb : Nat) (A B : Option Addr) (c d : Nat) (rv : Value) (w : World) (hK : Kn lo w kb A W.Nodes.length c l rv) (hw : repS (kb :: rv.ownBlock.toList) w (NodesT tN tS tC W.Nodes) (.slice A W.Nodes.length c)) (hq : repS (kb :: rv.ownBlock.toList) w (strsT ts qs) (.slice B qs.length d))
  (hl : l.length ≤ 100000) (hql : qs.length ≤ 100000) (hlo : lo ≤ w.heap.size) :
  Calls Tryz.prog 132 #[.pointer (some ⟨kb, 0, none⟩), .slice B qs.length d] w fun e w' => e = .returned (.tuple #[]) ∧ KnP lo w kb A W.Nodes.length c (wantsU W l qs) (kb :: rv.ownBlock.toList) w' := by
 have hkl := lt_of_heap hK.cells
 replace hK := Asd.mk hK
 replace hw := Asd.mk hw
 replace hq := Asd.mk hq
 go_enter Tryz.func132, Tryz.ntmps132
 go_wp2
 go_loopw [4] (fun i wr => ∃ k : Nat, k ≤ qs.length ∧ i = .int .i64 k ∧ KnP lo w kb A W.Nodes.length c (wuTo W l qs k) (kb :: rv.ownBlock.toList) wr) (fun i _ => qs.length - (intOf i).toNat)
 case atStart => exact ⟨0, by omega, rfl, rv, hK.out, MFr.refl _ _, fun k hk => .inl (by simp [hk])⟩
 case round =>
  obtain ⟨k, hk, rfl, rr, hKr, hm, hrr⟩ := hrel
  by_cases hlt : k < qs.length
  ·obtain ⟨a, c', he, hcell⟩ := str_elem (hq.out wr hm) hlt
   cases he
   obtain ⟨q, hqq⟩ : ∃ q, qs[k] = q := ⟨_, rfl⟩
   rw [hqq] at hcell
   obtain ⟨lr, hlr⟩ : ∃ lr, wuTo W l qs k = lr := ⟨_, rfl⟩
   have hll := wuTo_len W l qs k
   have e1 := Asd.mk (wuTo_succ (W := W) (l := l) hlt)
   rw [hlr] at hKr hll e1
   rw [hqq] at e1
   have hqq := Asd.mk hqq
   clear hlr
   obtain ⟨Br, dr, rfl, hdr⟩ := hKr.row.row.slice
   have c0 := cellOf hKr.cells (i := 0) rfl
   have c1 := cellOf hKr.cells (i := 1) rfl
   have f1 := frozenOf hKr.cells 1
   have hz : w.heap.size ≤ wr.heap.size := hm.size
   have hkr : kb < wr.heap.size := by omega
   replace hKr := Asd.mk hKr
   replace hm := Asd.mk hm
   have hrr2 := Asd.mk hrr
   clear hrr
   by_cases hn : hasN W.Nodes q = true
   rotate_left
   ·have hn := Bool.eq_false_iff.2 hn
    have hN : atN W.Nodes q = -1 := atN_out hn
    obtain ⟨nm, hM⟩ : ∃ nm, atR lr q = nm := ⟨_, rfl⟩
    have eQ := Asd.mk (wantU_out (l := lr) hn)
    replace hN := Asd.mk hN
    have hkeep := Asd.mk (show ∀ Z, Below wr.heap.size wr Z → (Below wr.heap.size wr Z ∧ Z.cell? ⟨kb, 0, none⟩ = some (.slice A W.Nodes.length c) ∧ Z.cell? (a.add k) = some (.string q)) from fun Z hb => ⟨hb, cell_below hb c0, cell_below hb hcell⟩)
    have s_0 : Below wr.heap.size wr wr.drew := (Below.refl _ _).drew
    go_wp2
    refine wp_region_held_drew (S := fun Z => Below wr.heap.size wr Z ∧ Z.cell? ⟨kb, 0, none⟩ = some (.slice A W.Nodes.length c) ∧ Z.cell? (a.add k) = some (.string q)) (by kernel_rfl) (hkeep.out _ s_0) (fun hHeld => ?_)
    (((refine wH 0 (v:=?_) rfl (by kernel_rfl) (fun _ _ _ h => h) (by rfl) ?_ (by assumption) ?_;rotate_left;next => ((intro X hX;(try dsimp only at hX);go_simp);try with_reducible rfl));try simp only [Act.put,List.getElem_toArray,List.getElem_cons_succ,List.getElem_cons_zero,List.setIfInBounds_toArray,List.set_cons_zero,List.set_cons_succ]); ((refine wH 1 (v:=?_) rfl (by kernel_rfl) (fun _ _ _ h => h) (by rfl) ?_ (by assumption) ?_;rotate_left;next => ((intro X hX;(try dsimp only at hX);go_simp);try with_reducible rfl));try simp only [Act.put,List.getElem_toArray,List.getElem_cons_succ,List.getElem_cons_zero,List.setIfInBounds_toArray,List.set_cons_zero,List.set_cons_succ]); ((refine wH 2 (v:=?_) rfl (by kernel_rfl) (fun _ _ _ h => h) (by rfl) ?_ (by assumption) ?_;rotate_left;next => ((intro X hX;(try dsimp only at hX);go_simp);try with_reducible rfl));try simp only [Act.put,List.getElem_toArray,List.getElem_cons_succ,List.getElem_cons_zero,List.setIfInBounds_toArray,List.set_cons_zero,List.set_cons_succ]); ((refine wH 3 (v:=?_) rfl (by kernel_rfl) (fun _ _ _ h => h) (by rfl) ?_ (by assumption) ?_;rotate_left;next => ((intro X hX;(try dsimp only at hX);go_simp);try with_reducible rfl));try simp only [Act.put,List.getElem_toArray,List.getElem_cons_succ,List.getElem_cons_zero,List.setIfInBounds_toArray,List.set_cons_zero,List.set_cons_succ]); ((refine wH 4 (v:=?_) rfl (by kernel_rfl) (fun _ _ _ h => h) (by rfl) ?_ (by assumption) ?_;rotate_left;next => ((intro X hX;(try dsimp only at hX);go_simp);try with_reducible rfl));try simp only [Act.put,List.getElem_toArray,List.getElem_cons_succ,List.getElem_cons_zero,List.setIfInBounds_toArray,List.set_cons_zero,List.set_cons_succ]); ((refine wH 5 (v:=?_) rfl (by kernel_rfl) (fun _ _ _ h => h) (by rfl) ?_ (by assumption) ?_;rotate_left;next => ((intro X hX;(try dsimp only at hX);go_simp);try with_reducible rfl));try simp only [Act.put,List.getElem_toArray,List.getElem_cons_succ,List.getElem_cons_zero,List.setIfInBounds_toArray,List.set_cons_zero,List.set_cons_succ]); ((refine wH 6 (v:=?_) rfl (by kernel_rfl) (fun _ _ _ h => h) (by rfl) ?_ (by assumption) ?_;rotate_left;next => ((intro X hX;(try dsimp only at hX);go_simp);try with_reducible rfl));try simp only [Act.put,List.getElem_toArray,List.getElem_cons_succ,List.getElem_cons_zero,List.setIfInBounds_toArray,List.set_cons_zero,List.set_cons_succ]); ((refine wH 7 (v:=?_) rfl (by kernel_rfl) (fun _ _ _ h => h) (by rfl) ?_ (by assumption) ?_;rotate_left;next => ((intro X hX;(try dsimp only at hX);go_simp);try with_reducible rfl));try simp only [Act.put,List.getElem_toArray,List.getElem_cons_succ,List.getElem_cons_zero,List.setIfInBounds_toArray,List.set_cons_zero,List.set_cons_succ]))
    (refine wpAnyH_ready (rs := [8]) (by kernel_rfl) (by simp) ?_; refine AllReadyH.cons rfl (fun K hK => ?_) AllReadyH.nil)
    go_simp
    (refine (l2At_calls W q _ (Web.rmk W ((hw.out wr hm.out).below (by repeat first|with_reducible (first|exact Below.refl _ _|exact s_0|refine below_al ?_ _|refine below_dr ?_ _|refine below_d1 ?_)|(with_reducible refine Below.setCell ?_ ?_ _;rotate_left;next => first|(simp;done)|(simp;omega)|omega))))).mono ?_; rw [hN.out]; rintro e' w5 ⟨rfl, hb⟩; obtain ⟨s_0, s_1, s_2⟩ := hkeep.out _ (below_st (show Below wr.heap.size wr _ from by repeat first|with_reducible (first|exact Below.refl _ _|exact s_0|refine below_al ?_ _|refine below_dr ?_ _|refine below_d1 ?_)|(with_reducible refine Below.setCell ?_ ?_ _;rotate_left;next => first|(simp;done)|(simp;omega)|omega)) hb); clear hb)
    refine hK.out _ _ (hkeep.out _ s_0) (fun hHeld => ?_)
    clear hK K
    (((refine wH 9 (v:=?_) rfl (by kernel_rfl) (fun _ _ _ h => h) (by rfl) ?_ (by assumption) ?_;rotate_left;next => ((intro X hX;(try dsimp only at hX);go_simp);try with_reducible rfl));try simp only [Act.put,List.getElem_toArray,List.getElem_cons_succ,List.getElem_cons_zero,List.setIfInBounds_toArray,List.set_cons_zero,List.set_cons_succ]); ((refine wH 10 (v:=?_) rfl (by kernel_rfl) (fun _ _ _ h => h) (by rfl) ?_ (by assumption) ?_;rotate_left;next => ((intro X hX;(try dsimp only at hX);go_simp);try with_reducible rfl));try simp only [Act.put,List.getElem_toArray,List.getElem_cons_succ,List.getElem_cons_zero,List.setIfInBounds_toArray,List.set_cons_zero,List.set_cons_succ]))
    ((refine wN 11 rfl (by kernel_rfl) (fun _ _ _ h => h) (by rfl) (by assumption) ?_);try simp only [Act.put,List.getElem_toArray,List.getElem_cons_succ,List.getElem_cons_zero,List.setIfInBounds_toArray,List.set_cons_zero,List.set_cons_succ]; (refine wN 12 rfl (by kernel_rfl) (fun _ _ _ h => h) (by rfl) (by assumption) ?_);try simp only [Act.put,List.getElem_toArray,List.getElem_cons_succ,List.getElem_cons_zero,List.setIfInBounds_toArray,List.set_cons_zero,List.set_cons_succ]; (refine wN 13 rfl (by kernel_rfl) (fun _ _ _ h => h) (by rfl) (by assumption) ?_);try simp only [Act.put,List.getElem_toArray,List.getElem_cons_succ,List.getElem_cons_zero,List.setIfInBounds_toArray,List.set_cons_zero,List.set_cons_succ]; (refine wN 14 rfl (by kernel_rfl) (fun _ _ _ h => h) (by rfl) (by assumption) ?_);try simp only [Act.put,List.getElem_toArray,List.getElem_cons_succ,List.getElem_cons_zero,List.setIfInBounds_toArray,List.set_cons_zero,List.set_cons_succ]; (refine wN 15 rfl (by kernel_rfl) (fun _ _ _ h => h) (by rfl) (by assumption) ?_);try simp only [Act.put,List.getElem_toArray,List.getElem_cons_succ,List.getElem_cons_zero,List.setIfInBounds_toArray,List.set_cons_zero,List.set_cons_succ]; (refine wN 16 rfl (by kernel_rfl) (fun _ _ _ h => h) (by rfl) (by assumption) ?_);try simp only [Act.put,List.getElem_toArray,List.getElem_cons_succ,List.getElem_cons_zero,List.setIfInBounds_toArray,List.set_cons_zero,List.set_cons_succ]; (refine wN 17 rfl (by kernel_rfl) (fun _ _ _ h => h) (by rfl) (by assumption) ?_);try simp only [Act.put,List.getElem_toArray,List.getElem_cons_succ,List.getElem_cons_zero,List.setIfInBounds_toArray,List.set_cons_zero,List.set_cons_succ])
    (((refine wH 18 (v:=?_) rfl (by kernel_rfl) (fun _ _ _ h => h) (by rfl) ?_ (by assumption) ?_;rotate_left;next => ((intro X hX;(try dsimp only at hX);go_simp);try with_reducible rfl));try simp only [Act.put,List.getElem_toArray,List.getElem_cons_succ,List.getElem_cons_zero,List.setIfInBounds_toArray,List.set_cons_zero,List.set_cons_succ]))
    refine wpAnyH_done (by kernel_rfl) ?_ _
    clear hkeep
    have hs5 := Asd.mk s_0
    clear s_0
    go_wp2
    go_roundw
    case rel => exact ⟨k + 1, by omega, by go_num, _, by rw [e1.out, eQ.out]; exact hKr.out.later hs5.out, hm.out.trans (MFr.of_below hs5.out), fun b hb => hrr2.out b hb⟩
    case measure => simp [intOf]; omega
   have g0 : ¬atN W.Nodes q < 0 := fun h => by rw [(atN_neg _ _).1 h] at hn; cases hn
   obtain ⟨na, hN⟩ : ∃ na : Nat, atN W.Nodes q = (na : Int) := ⟨(atN W.Nodes q).toNat, by omega⟩
   have g1 : decide ((0 : Int) ≤ (na : Int)) = true := by simp
   clear g0
   replace hN := Asd.mk hN
   cases hr : runOf lr q with
   | some r =>
    have g4 : ¬atR lr q < 0 := fun h => by rw [atR_neg, hr] at h; cases h
    obtain ⟨nm, hM⟩ : ∃ nm : Nat, atR lr q = (nm : Int) := ⟨(atR lr q).toNat, by omega⟩
    have g3 : decide ((nm : Int) < 0) = false := by simp
    clear g4
    have eQ := Asd.mk (wantU_has (W := W) hr)
    replace hM := Asd.mk hM
    have hkeep := Asd.mk (show ∀ Z, Below wr.heap.size wr Z → (Below wr.heap.size wr Z ∧ Z.cell? ⟨kb, 0, none⟩ = some (.slice A W.Nodes.length c) ∧ Z.cell? ⟨kb, 1, none⟩ = some (.slice Br lr.length dr) ∧ Z.cell? (a.add k) = some (.string q)) from fun Z hb => ⟨hb, cell_below hb c0, cell_below hb c1, cell_below hb hcell⟩)
    have s_0 : Below wr.heap.size wr wr.drew := (Below.refl _ _).drew
    go_wp2
    go_region_held3 (fun Z => Below wr.heap.size wr Z ∧ Z.cell? ⟨kb, 0, none⟩ = some (.slice A W.Nodes.length c) ∧ Z.cell? ⟨kb, 1, none⟩ = some (.slice Br lr.length dr) ∧ Z.cell? (a.add k) = some (.string q)) ((refine hkeep.out _ ?_; (repeat first|with_reducible (first|exact Below.refl _ _|exact s_0|refine below_al ?_ _|refine below_dr ?_ _|refine below_d1 ?_)|(with_reducible refine Below.setCell ?_ ?_ _;rotate_left;next => first|(simp;done)|(simp;omega)|omega))))
     (first | (go_at_call 91; refine (l2At_calls W q _ (Web.rmk W ((hw.out wr hm.out).below (by repeat first|with_reducible (first|exact Below.refl _ _|exact s_0|refine below_al ?_ _|refine below_dr ?_ _|refine below_d1 ?_)|(with_reducible refine Below.setCell ?_ ?_ _;rotate_left;next => first|(simp;done)|(simp;omega)|omega))))).mono ?_; rw [hN.out]; rintro e' w5 ⟨rfl, hb⟩; obtain ⟨s_0, s_1, s_2, s_3⟩ := hkeep.out _ (below_st (show Below wr.heap.size wr _ from by repeat first|with_reducible (first|exact Below.refl _ _|exact s_0|refine below_al ?_ _|refine below_dr ?_ _|refine below_d1 ?_)|(with_reducible refine Below.setCell ?_ ?_ _;rotate_left;next => first|(simp;done)|(simp;omega)|omega)) hb); clear hb) | (go_at_call 153; refine (find3_calls lr q kb A Br W.Nodes.length c dr _ s_1 s_2 (hKr.out.row.row.rep.below s_0) (by omega)).mono ?_; rw [hM.out]; rintro e' w6 ⟨rfl, rfl⟩))
    clear hkeep
    have hs5 := Asd.mk s_0
    clear s_0
    go_wp2
    go_roundw
    case rel => exact ⟨k + 1, by omega, by go_num, _, by rw [e1.out, eQ.out]; exact hKr.out.later hs5.out, hm.out.trans (MFr.of_below hs5.out), fun b hb => hrr2.out b hb⟩
    case measure => simp [intOf]; omega
   | none =>
    have hM : atR lr q = -1 := atR_none hr
    have eQ := Asd.mk (wantU_new hn hr)
    replace hM := Asd.mk hM
    have hkeep := Asd.mk (show ∀ Z, Below wr.heap.size wr Z → (Below wr.heap.size wr Z ∧ Z.cell? ⟨kb, 0, none⟩ = some (.slice A W.Nodes.length c) ∧ Z.cell? ⟨kb, 1, none⟩ = some (.slice Br lr.length dr) ∧ Z.cell? (a.add k) = some (.string q)) from fun Z hb => ⟨hb, cell_below hb c0, cell_below hb c1, cell_below hb hcell⟩)
    have s_0 : Below wr.heap.size wr wr.drew := (Below.refl _ _).drew
    go_wp2
    go_region_held3 (fun Z => Below wr.heap.size wr Z ∧ Z.cell? ⟨kb, 0, none⟩ = some (.slice A W.Nodes.length c) ∧ Z.cell? ⟨kb, 1, none⟩ = some (.slice Br lr.length dr) ∧ Z.cell? (a.add k) = some (.string q)) ((refine hkeep.out _ ?_; (repeat first|with_reducible (first|exact Below.refl _ _|exact s_0|refine below_al ?_ _|refine below_dr ?_ _|refine below_d1 ?_)|(with_reducible refine Below.setCell ?_ ?_ _;rotate_left;next => first|(simp;done)|(simp;omega)|omega))))
     (first | (go_at_call 91; refine (l2At_calls W q _ (Web.rmk W ((hw.out wr hm.out).below (by repeat first|with_reducible (first|exact Below.refl _ _|exact s_0|refine below_al ?_ _|refine below_dr ?_ _|refine below_d1 ?_)|(with_reducible refine Below.setCell ?_ ?_ _;rotate_left;next => first|(simp;done)|(simp;omega)|omega))))).mono ?_; rw [hN.out]; rintro e' w5 ⟨rfl, hb⟩; obtain ⟨s_0, s_1, s_2, s_3⟩ := hkeep.out _ (below_st (show Below wr.heap.size wr _ from by repeat first|with_reducible (first|exact Below.refl _ _|exact s_0|refine below_al ?_ _|refine below_dr ?_ _|refine below_d1 ?_)|(with_reducible refine Below.setCell ?_ ?_ _;rotate_left;next => first|(simp;done)|(simp;omega)|omega)) hb); clear hb) | (go_at_call 153; refine (find3_calls lr q kb A Br W.Nodes.length c dr _ s_1 s_2 (hKr.out.row.row.rep.below s_0) (by omega)).mono ?_; rw [hM.out]; rintro e' w6 ⟨rfl, rfl⟩))
    clear hkeep
    have hs5 := Asd.mk s_0
    clear s_0
    go_wp2_with fail
    have b5 := hs5.out
    have d1 := cell_below b5 c1
    have d3 := cell_below b5 hcell
    have df : w5.frozen? ⟨kb, 1, none⟩ = false := (b5.frozen (p := ⟨kb, 1, none⟩) hkr).trans f1
    have hR5 := Asd.mk (hKr.out.row.later b5)
    have z5 : kb < w5.heap.size := by have := b5.size; omega
    have hg5 := Asd.mk ((b5.block kb hkr).trans hKr.out.cells)
    have hap := Asd.mk hKr.out.apart
    have hm5 := Asd.mk (hm.out.trans (MFr.of_below b5))
    have hz5 := Asd.mk b5.size
    clear b5
    refine wp_region_G (last := 14) (S := fun Z => Z.cell? ⟨kb, 1, none⟩ = some (.slice Br lr.length dr) ∧ Z.cell? (a.add k) = some (.string q)) (by kernel_rfl) ?_
    have hH : w5.drew.cell? ⟨kb, 1, none⟩ = some (.slice Br lr.length dr) ∧ w5.drew.cell? (a.add k) = some (.string q) := ⟨d1, d3⟩
    (((refine wG 0 (v:=?_) rfl rfl (by kernel_rfl) (fun _ _ _ h => h) (by rfl) ?_ (by assumption) ?_;rotate_left;next => ((intro X hX;(try dsimp only at hX);go_simp);try with_reducible rfl));try simp only [Act.put,List.getElem_toArray,List.getElem_cons_succ,List.getElem_cons_zero,List.setIfInBounds_toArray,List.set_cons_zero,List.set_cons_succ]); ((refine wG 1 (v:=?_) rfl rfl (by kernel_rfl) (fun _ _ _ h => h) (by rfl) ?_ (by assumption) ?_;rotate_left;next => ((intro X hX;(try dsimp only at hX);go_simp);try with_reducible rfl));try simp only [Act.put,List.getElem_toArray,List.getElem_cons_succ,List.getElem_cons_zero,List.setIfInBounds_toArray,List.set_cons_zero,List.set_cons_succ]); ((refine wG 2 (v:=?_) rfl rfl (by kernel_rfl) (fun _ _ _ h => h) (by rfl) ?_ (by assumption) ?_;rotate_left;next => ((intro X hX;(try dsimp only at hX);go_simp);try with_reducible rfl));try simp only [Act.put,List.getElem_toArray,List.getElem_cons_succ,List.getElem_cons_zero,List.setIfInBounds_toArray,List.set_cons_zero,List.set_cons_succ]); ((refine wG 3 (v:=?_) rfl rfl (by kernel_rfl) (fun _ _ _ h => h) (by rfl) ?_ (by assumption) ?_;rotate_left;next => ((intro X hX;(try dsimp only at hX);go_simp);try with_reducible rfl));try simp only [Act.put,List.getElem_toArray,List.getElem_cons_succ,List.getElem_cons_zero,List.setIfInBounds_toArray,List.set_cons_zero,List.set_cons_succ]); ((refine wG 4 (v:=?_) rfl rfl (by kernel_rfl) (fun _ _ _ h => h) (by rfl) ?_ (by assumption) ?_;rotate_left;next => ((intro X hX;(try dsimp only at hX);go_simp);try with_reducible rfl));try simp only [Act.put,List.getElem_toArray,List.getElem_cons_succ,List.getElem_cons_zero,List.setIfInBounds_toArray,List.set_cons_zero,List.set_cons_succ]); ((refine wG 5 (v:=?_) rfl rfl (by kernel_rfl) (fun _ _ _ h => h) (by rfl) ?_ (by assumption) ?_;rotate_left;next => ((intro X hX;(try dsimp only at hX);go_simp);try with_reducible rfl));try simp only [Act.put,List.getElem_toArray,List.getElem_cons_succ,List.getElem_cons_zero,List.setIfInBounds_toArray,List.set_cons_zero,List.set_cons_succ]); ((refine wG 6 (v:=?_) rfl rfl (by kernel_rfl) (fun _ _ _ h => h) (by rfl) ?_ (by assumption) ?_;rotate_left;next => ((intro X hX;(try dsimp only at hX);go_simp);try with_reducible rfl));try simp only [Act.put,List.getElem_toArray,List.getElem_cons_succ,List.getElem_cons_zero,List.setIfInBounds_toArray,List.set_cons_zero,List.set_cons_succ]); ((refine wG 7 (v:=?_) rfl rfl (by kernel_rfl) (fun _ _ _ h => h) (by rfl) ?_ (by assumption) ?_;rotate_left;next => ((intro X hX;(try dsimp only at hX);go_simp);try with_reducible rfl));try simp only [Act.put,List.getElem_toArray,List.getElem_cons_succ,List.getElem_cons_zero,List.setIfInBounds_toArray,List.set_cons_zero,List.set_cons_succ]); ((refine wG 8 (v:=?_) rfl rfl (by kernel_rfl) (fun _ _ _ h => h) (by rfl) ?_ (by assumption) ?_;rotate_left;next => ((intro X hX;(try dsimp only at hX);go_simp);try with_reducible rfl));try simp only [Act.put,List.getElem_toArray,List.getElem_cons_succ,List.getElem_cons_zero,List.setIfInBounds_toArray,List.set_cons_zero,List.set_cons_succ]); ((refine wG 9 (v:=?_) rfl rfl (by kernel_rfl) (fun _ _ _ h => h) (by rfl) ?_ (by assumption) ?_;rotate_left;next => ((intro X hX;(try dsimp only at hX);go_simp);try with_reducible rfl));try simp only [Act.put,List.getElem_toArray,List.getElem_cons_succ,List.getElem_cons_zero,List.setIfInBounds_toArray,List.set_cons_zero,List.set_cons_succ]))
    (refine wpG_one (i := 10) (by kernel_rfl) rfl (fun K hK => ?_))
    go_simp
    refine hK.out _ _ (fun _ => ⟨cell_below (by repeat first|with_reducible (first|exact Below.refl _ _|exact Below.refl _ _|refine below_al ?_ _|refine below_dr ?_ _|refine below_d1 ?_)|(with_reducible refine Below.setCell ?_ ?_ _;rotate_left;next => first|(simp;done)|(simp;omega)|omega)) d1, cell_below (by repeat first|with_reducible (first|exact Below.refl _ _|exact Below.refl _ _|refine below_al ?_ _|refine below_dr ?_ _|refine below_d1 ?_)|(with_reducible refine Below.setCell ?_ ?_ _;rotate_left;next => first|(simp;done)|(simp;omega)|omega)) d3⟩) ?_
    clear hK K hH
    (try simp only [Act.put, List.setIfInBounds_toArray, List.set_cons_zero, List.set_cons_succ])
    (refine wpG_one (i := 11) (by kernel_rfl) rfl (fun K hK => ?_))
    refine step_appN (by rfl) (by rfl) Tryz.underlying36 info_Run rfl (by decide) (by rfl) (lo := lo) (wr := w5) (by have := hz5.out; omega) hR5.out (by repeat first|with_reducible (first|exact Below.refl _ _|exact Below.refl _ _|refine below_al ?_ _|refine below_dr ?_ _|refine below_d1 ?_)|(with_reducible refine Below.setCell ?_ ?_ _;rotate_left;next => first|(simp;done)|(simp;omega)|omega)) (by rfl) (World.news_of_block (heap_alloc_new _ _)) (by simp) (newRun_reps _ _ q) (by simp [maxLen]; omega) (by omega) ?_
    intro v7 w7 hR7 hF7 ho7
    obtain ⟨A7, c7, rfl, hc7⟩ := hR7.row.slice
    have hb6 : Below w5.heap.size w5 (w5.alloc (Obj.cells #[.string q, .bool false, .bool false, .string ⟨#[]⟩, .int .i64 0, .int .i64 0, .slice none 0 0] 84)).drew := by repeat first|with_reducible (first|exact Below.refl _ _|exact Below.refl _ _|refine below_al ?_ _|refine below_dr ?_ _|refine below_d1 ?_)|(with_reducible refine Below.setCell ?_ ?_ _;rotate_left;next => first|(simp;done)|(simp;omega)|omega)
    have hm7 := Asd.mk (MFr.part (hm5.out.trans (MFr.of_below hb6)) hF7 (fun b hb => hrr2.out b (by simpa using hb)))
    have g7 : w7.heap[kb]? = _ := (hF7.block kb (Nat.lt_of_lt_of_le z5 hb6.size) (fun hx => hap.out kb (by simpa using hx) rfl)).trans ((hb6.block kb z5).trans hg5.out)
    have t1 := cellOf g7 (i := 1) rfl
    have tf := frozenOf g7 1
    obtain ⟨a7, c7', he7, t3⟩ := str_elem (hq.out w7 hm7.out) hlt
    cases he7
    rw [hqq.out] at t3
    have ho8 := Asd.mk (show ∀ b, (Value.slice A7 (lr.length + 1) c7).ownBlock = some b → (Value.slice Br lr.length dr).ownBlock = some b ∨ w5.heap.size ≤ b from fun b hb => (ho7 b hb).imp id (fun h => Nat.le_trans hb6.size h))
    clear ho7 hb6 hF7
    replace hR7 := Asd.mk hR7
    replace g7 := Asd.mk g7
    refine hK.out _ _ (fun _ => ⟨t1, t3⟩) ?_
    clear hK K
    (try simp only [Act.put, List.setIfInBounds_toArray, List.set_cons_zero, List.set_cons_succ])
    have hH : w7.cell? ⟨kb, 1, none⟩ = some (.slice Br lr.length dr) ∧ w7.cell? (a.add k) = some (.string q) := ⟨t1, t3⟩
    (refine wpG_one (i := 12) (by kernel_rfl) rfl (fun K hK => ?_))
    go_simp
    refine hK.out _ _ (fun _ => ⟨t1, t3⟩) ?_
    clear hK K
    (try simp only [Act.put, List.setIfInBounds_toArray, List.set_cons_zero, List.set_cons_succ])
    (((refine wG 13 (v:=?_) rfl rfl (by kernel_rfl) (fun _ _ _ h => h) (by rfl) ?_ (by assumption) ?_;rotate_left;next => ((intro X hX;(try dsimp only at hX);go_simp);try with_reducible rfl));try simp only [Act.put,List.getElem_toArray,List.getElem_cons_succ,List.getElem_cons_zero,List.setIfInBounds_toArray,List.set_cons_zero,List.set_cons_succ]))
    (refine wpG_one (i := 14) (by kernel_rfl) rfl (fun K hK => ?_))
    go_simp
    refine hK.out _ _ (fun h => absurd rfl h) ?_
    clear hK K hH
    refine wpG_done (by kernel_rfl) ?_ _
    go_wp2
    go_roundw
    case rel =>
     refine ⟨k + 1, by omega, by go_num, .slice A7 (lr.length + 1) c7, ?_, hm7.out.trans (MFr.of_set _ (by simp)), fun b hb => ?_⟩
     ·rw [e1.out, eQ.out]
      refine ⟨by simpa using heap_set1 g7.out 1 (.slice A7 (lr.length + 1) c7), ?_, fun b hb => ?_⟩
      ·have := hR7.out.go (MFr.of_set (p := ⟨kb, 1, none⟩) (.slice A7 (lr.length + 1) c7) (by simp)) (fun b hb => ?_)
       ·rw [List.length_append, List.flatMap_append]
        simpa using this
       ·rcases ho8.out b hb with h | h
        ·simp; exact hap.out b h
        ·simp; omega
      ·rcases ho8.out b hb with h | h
       ·exact hap.out b h
       ·omega
     ·rcases ho8.out b hb with h | h
      ·exact hrr2.out b h
      ·have := hz5.out; right; omega
    case measure => simp [intOf]; omega
  ·obtain rfl : k = qs.length := by omega
   have e1 := Asd.mk (wuTo_end W l qs)
   go_wp2
   go_end0
   exact ⟨rfl, rr, by rw [← e1.out]; exact hKr, hm, hrr⟩
end Go.Proofs.YtkpkfihaihoaeaaGreatDoor.M
end
section
set_option linter.unusedVariables false
set_option linter.unusedSimpArgs false
namespace Go.Proofs.YtkpkfihaihoaeaaGreatDoor.M
open Go.RowKit

theorem isPow_calls (w : World) : Calls Tryz.prog 257 #[.int .i64 16] w fun e w' => e = .returned (.bool true) ∧ w = w' := by
 go_enter Tryz.func257, Tryz.ntmps257
 go_wp2
 go_ret
 exact ⟨rfl, rfl⟩
theorem tz64_calls (w : World) (ht : w.cell? ⟨3, 15, none⟩ = some (.int .u8 4)) : Calls Tryz.prog 264 #[.int .u64 16] w fun e w' => e = .returned (.int .i64 4) ∧ w = w' := by
 have n1 : IntKind.u64.wrap (-16) = 18446744073709551600 := by decide +kernel
 have n2 : bits BinOp.and IntKind.u64 16 18446744073709551600 = 16 := by decide +kernel
 have n3 : IntKind.u64.wrap (16 * 285870213051353865) = 4573923408821661840 := by decide +kernel
 have n4 : IntKind.u64.wrap 4573923408821661840 = 4573923408821661840 := by decide +kernel
 go_enter Tryz.func264, Tryz.ntmps264
 go_wp2
 go_ret
 exact ⟨rfl, rfl⟩
theorem tz_calls (w : World) (ht : w.cell? ⟨3, 15, none⟩ = some (.int .u8 4)) : Calls Tryz.prog 258 #[.int .u64 16] w fun e w' => e = .returned (.int .i64 4) ∧ w = w' := by
 go_enter Tryz.func258, Tryz.ntmps258
 go_wp2_with (first | (go_at_call 264; refine (tz64_calls _ ht).mono ?_; rintro e w' ⟨rfl, rfl⟩))
 go_ret
 exact ⟨rfl, rfl⟩

/-- a hexadecimal digit's byte; the digits of a number, the greatest first -/
def hd16 (k : Nat) : Int := if k < 10 then 48 + k else 87 + k
def hexL (n : Nat) : List Int := if h : n < 16 then [hd16 n] else hexL (n / 16) ++ [hd16 (n % 16)]
termination_by n
decreasing_by omega
theorem hexL_small {n : Nat} (h : n < 16) : hexL n = [hd16 n] := by rw [hexL]; simp [h]
theorem hexL_big {n : Nat} (h : ¬n < 16) : hexL n = hexL (n / 16) ++ [hd16 (n % 16)] := by rw [hexL]; simp [h]
/-- 65 cells that can be written, the last ones written -/
def Arr65 (w : World) (g i : Nat) (ds : List Int) : Prop := (∀ j, j < 65 → ∃ u, w.cell? ⟨g, j, none⟩ = some u) ∧ (∀ j, w.frozen? ⟨g, j, none⟩ = false) ∧ ∀ k, k < ds.length → w.cell? ⟨g, i + k, none⟩ = some (.int .u8 (ds.getD k 0))
theorem Arr65.init (w : World) (t : TypeId) : Arr65 (w.alloc (.cells (Array.replicate 65 (.int .u8 0)) t)) w.heap.size 65 [] := by
 refine ⟨fun j hj => ⟨.int .u8 0, ?_⟩, fun j => ?_, fun k hk => by simp at hk⟩
 ·rw [World.cell?_alloc_new]; simp [hj]
 ·go_simp
theorem Arr65.store {w : World} {g i : Nat} {ds : List Int} (h : Arr65 w g (i + 1) ds) (hi : i < 65) (d : Int) : Arr65 (w.setCell ⟨g, i, none⟩ (.int .u8 d)) g i (d :: ds) := by
 obtain ⟨h1, h2, h3⟩ := h
 refine ⟨fun j hj => ?_, fun j => by rw [World.frozen?_setCell]; exact h2 j, fun k hk => ?_⟩
 ·obtain ⟨u, hu⟩ := h1 j hj
  exact cell?_setCell_some hu
 ·cases k with
  | zero =>
   obtain ⟨u, hu⟩ := h1 i hi
   simpa using World.cell?_setCell_same w _ (.int .u8 d) hu
  | succ k =>
   have ho : (w.setCell ⟨g, i, none⟩ (.int .u8 d)).cell? ⟨g, i + (k + 1), none⟩ = w.cell? ⟨g, i + (k + 1), none⟩ := by
    apply World.cell?_setCell_other
    intro e; cases e
   rw [ho]
   have := h3 k (by simpa using hk)
   simpa [Nat.add_assoc, Nat.add_comm 1 k] using this
theorem wraps_u64 (n : Int) (h₀ : 0 ≤ n) (h₁ : n < 2 ^ 64) : IntKind.u64.wrap n = n := by rw [IntKind.wrap_u64]; omega
theorem and15 (m : Nat) (h : m < 18446744073709551616) : bits .and .u64 (m : Int) 15 = ((m % 16 : Nat) : Int) := by
 have h := bits_mask .u64 64 (by decide) wraps_u64 4 (by decide) (m : Int) (by omega) (by omega)
 have e : ((2 : Int) ^ 4 - 1) = 15 := by decide
 have e2 : ((2 : Int) ^ 4) = 16 := by decide
 rw [e, e2] at h
 rw [h]; omega
def tab36 : ByteArray := ⟨#[48, 49, 50, 51, 52, 53, 54, 55, 56, 57, 97, 98, 99, 100, 101, 102, 103, 104, 105, 106, 107, 108, 109, 110, 111, 112, 113, 114, 115, 116, 117, 118, 119, 120, 121, 122]⟩
theorem digit_all : ∀ k : Fin 16, ((tab36[k.val]'(by have := k.isLt; have : tab36.size = 36 := rfl; omega)).toNat : Int) = hd16 k.val := by decide
theorem digit_at (k : Nat) (hk : k < 16) (hp : k < tab36.size) : ((tab36[k]'hp).toNat : Int) = hd16 k := digit_all ⟨k, hk⟩
theorem pow16 {m d N : Nat} (hm : m * 16 ^ d ≤ N) (hN : N < 18446744073709551616) (h : 1 ≤ m) : d ≤ 15 := by
 rcases Nat.lt_or_ge 15 d with h1 | h1
 ·have h2 : 16 ^ 16 ≤ 16 ^ d := Nat.pow_le_pow_right (by omega) h1
  have h3 : 16 ^ d ≤ m * 16 ^ d := Nat.le_mul_of_pos_left _ h
  have h4 : (16 : Nat) ^ 16 = 18446744073709551616 := by decide
  omega
 ·exact h1
theorem pow16s {m d N : Nat} (hm : m * 16 ^ d ≤ N) : (m / 16) * 16 ^ (d + 1) ≤ N := by
 have h1 : (m / 16) * 16 ≤ m := Nat.div_mul_le_self m 16
 calc (m / 16) * 16 ^ (d + 1) = ((m / 16) * 16) * 16 ^ d := by rw [Nat.pow_succ, Nat.mul_assoc, Nat.mul_comm (16 ^ d) 16]
  _ ≤ m * 16 ^ d := Nat.mul_le_mul_right _ h1
  _ ≤ N := hm
theorem zero65 (w : World) : Sem.run Tryz.prog (zeroValue 290) w = .ok (.agg (Array.replicate 65 (.int .u8 0))) w := by
 have h : (Tryz.prog.info? 290).map (fun i => i.zero) = some (some (.agg (Array.replicate 65 (.int .u8 0)))) := by kernel_rfl
 obtain ⟨i, h1, h2⟩ := Option.map_eq_some_iff.1 h
 simp [zeroValue, typeInfo, h1, h2]
set_option maxRecDepth 100000 in
set_option maxHeartbeats 2000000 in
theorem formatBits_calls (N : Nat) (hN : N < 18446744073709551616) (w : World) (hg : 3 < w.heap.size) (ht : w.cell? ⟨3, 15, none⟩ = some (.int .u8 4)) :
  Calls Tryz.prog 240 #[.slice none 0 0, .int .u64 N, .int .i64 16, .bool false, .bool false] w fun e w' => e = .returned (.tuple #[.slice none 0 0, .string (strOfNums (hexL N))]) ∧ Below w.heap.size w w' := by
 have zv := zero65
 go_enter Tryz.func240, Tryz.ntmps240
 go_wp2_with (first | (go_at_call 257; refine (isPow_calls _).mono ?_; rintro e w' ⟨rfl, rfl⟩) | (go_at_call 258; refine (tz_calls _ (by go_simp)).mono ?_; rintro e w' ⟨rfl, rfl⟩))
 go_loopw [1, 13] (fun v j wr => ∃ (m i : Nat) (ds : List Int), v = .int .u64 m ∧ j = .int .i64 i ∧ ds.length + i = 65 ∧ m * 16 ^ ds.length ≤ N ∧ hexL N = hexL m ++ ds ∧ (1 ≤ m ∨ ds = []) ∧ Below w.heap.size w wr ∧ w.heap.size < wr.heap.size ∧ Arr65 wr w.heap.size i ds) (fun v _ _ => (intOf v).toNat)
 case atStart => exact ⟨N, 65, [], rfl, rfl, rfl, by simp, by simp, .inr rfl, (Below.refl _ _).alloc (Nat.le_refl _) _, by simp, Arr65.init _ _⟩
 case round =>
  obtain ⟨m, i, ds, rfl, rfl, hl, hm, hx, h01, hbr, hsz, hA⟩ := hrel
  have hmN : m ≤ N := Nat.le_trans (Nat.le_mul_of_pos_right m (Nat.pow_pos (by omega))) hm
  have hb := and15 m (by omega)
  obtain ⟨q, hq⟩ : ∃ q, m % 16 = q := ⟨_, rfl⟩
  rw [hq] at hb
  have hq16 : q < 16 := by omega
  have j1 : ((q : Nat) : Int) < 36 := by omega
  have hd : ds.length ≤ 15 := by
   rcases h01 with h0 | h0
   ·exact pow16 hm hN h0
   ·rw [h0]; simp
  obtain ⟨i, rfl⟩ : ∃ i', i = i' + 1 := ⟨i - 1, by omega⟩
  obtain ⟨u, hu⟩ := hA.1 i (by omega)
  have hf := hA.2.1 i
  by_cases hlt : m < 16
  ·have e2 := hexL_small hlt
   have e3 := hA.store (by omega) (hd16 m)
   have j2 : ((m : Nat) : Int) < 36 := by omega
   have h9 := digit_at m hlt (by have : tab36.size = 36 := rfl; omega)
   simp only [tab36] at h9
   have hal : Tryz.prog.arrayLen 290 = 65 := by simp [Program.arrayLen, Tryz.underlying290]
   have hsl : ∀ W, (Instr.sliceAt 290 (.pointer (some ⟨w.heap.size, 0, none⟩)) (some (.int .i64 i)) none none).run Tryz.prog W = .ok (.slice (some ⟨w.heap.size, i, none⟩) (65 - i) (65 - i)) W := fun W => by
    rw [run_sliceAt_array_l W 290 ⟨w.heap.size, 0, none⟩ (by simp [Program.arrayLen, Program.elem, Tryz.underlying290]) .i64 i (by omega) (by rw [hal]; omega)]
    have h65 : ¬(65 : Nat) = i := by omega
    have ha0 := add_zero' w.heap.size i
    have hel : Tryz.prog.elem 290 = 5 := by simp [Program.elem, Tryz.underlying290]
    rw [hel]
    simp [hal, h65, ha0, slicedAt, Tryz.sizeOf5]
   have hcv := run_convert_bytes_arg (P := Tryz.prog) (wr.setCell ⟨w.heap.size, i, none⟩ (.int .u8 (hd16 m))) 181 5 Tryz.underlying181 Tryz.underlying5 w.heap.size i (65 - i) (65 - i) (hd16 m :: ds) (by simp; omega) (fun k hk => e3.2.2 k (by simp; omega)) 9 Tryz.underlying9
   go_wp2
   refine bodyPost_ret (v := .tuple #[.slice none 0 0, .string (strOfNums (hd16 m :: ds))]) (by simp [results, Tryz.results240, go_sem, *]) rfl ?_
   exact ⟨by rw [hx, e2]; rfl, by repeat first|with_reducible (first|exact Below.refl _ _|exact hbr|refine below_al ?_ _|refine below_dr ?_ _|refine below_d1 ?_)|(with_reducible refine Below.setCell ?_ ?_ _;rotate_left;next => first|(simp;done)|(simp;omega)|omega)⟩
  ·have e1 := pow16s hm
   have e2 := hexL_big hlt
   have e3 := hA.store (by omega) (hd16 q)
   go_wp2
   go_roundw
   case rel => exact ⟨m / 16, i, hd16 q :: ds, by go_num, rfl, by simp; omega, e1, by rw [hx, e2, hq]; simp, .inl (by omega), by repeat first|with_reducible (first|exact Below.refl _ _|exact hbr|refine below_al ?_ _|refine below_dr ?_ _|refine below_d1 ?_)|(with_reducible refine Below.setCell ?_ ?_ _;rotate_left;next => first|(simp;done)|(simp;omega)|omega), by simpa using hsz, by have h9 := digit_at q hq16 (by have : tab36.size = 36 := rfl; omega); simp only [tab36] at h9; rw [h9]; exact e3⟩
   case measure => simp [intOf]; omega
theorem iFormat_calls (N : Nat) (hN : N < 18446744073709551616) (w : World) (hg : 3 < w.heap.size) (ht : w.cell? ⟨3, 15, none⟩ = some (.int .u8 4)) :
  Calls Tryz.prog 215 #[.int .u64 N, .int .i64 16] w fun e w' => e = .returned (.string (strOfNums (hexL N))) ∧ Below w.heap.size w w' := by
 go_enter Tryz.func215, Tryz.ntmps215
 go_wp2_with (first | (go_at_call 240; refine (formatBits_calls N hN _ hg ht).mono ?_; rintro e w' ⟨rfl, hb⟩))
 go_ret
 exact ⟨rfl, hb⟩
theorem FormatUint_calls (N : Nat) (hN : N < 18446744073709551616) (w : World) (hg : 3 < w.heap.size) (ht : w.cell? ⟨3, 15, none⟩ = some (.int .u8 4)) :
  Calls Tryz.prog 184 #[.int .u64 N, .int .i64 16] w fun e w' => e = .returned (.string (strOfNums (hexL N))) ∧ Below w.heap.size w w' := by
 go_enter Tryz.func184, Tryz.ntmps184
 go_wp2_with (first | (go_at_call 215; refine (iFormat_calls N hN _ hg ht).mono ?_; rintro e w' ⟨rfl, hb⟩))
 go_ret
 exact ⟨rfl, hb⟩
end Go.Proofs.YtkpkfihaihoaeaaGreatDoor.M
end
section
set_option linter.unusedVariables false
set_option linter.unusedSimpArgs false
namespace Go.Proofs.YtkpkfihaihoaeaaGreatDoor.M
open Go.RowKit
def joinB (ts : List ByteArray) : ByteArray := ⟨(Lib.join (ts.map (·.data.toList)) [44]).toArray⟩
def whole (give : ByteArray) (ts : List ByteArray) : ByteArray := give ++ ⟨#[40]⟩ ++ joinB ts ++ ⟨#[41]⟩
def hStep (h : Nat) (b : UInt8) : Nat := ((h ^^^ b.toNat) * 1099511628211) % 18446744073709551616
def hashTo (s : ByteArray) (k : Nat) : Nat := (s.data.toList.take k).foldl hStep 14695981039346656037
def hexK : Nat → Nat → List Int
 | 0, _ => []
 | k + 1, n => hexK k (n / 16) ++ [hd16 (n % 16)]
def txtOk (t : ByteArray) : Bool := decide (t.size ≤ 200)
def finish (give : ByteArray) (ts : List ByteArray) : ByteArray :=
 if 30 < give.size ∨ 100 < ts.length then ⟨#[]⟩ else if ts.all txtOk = false then ⟨#[]⟩ else
 if (whole give ts).size ≤ 200 then whole give ts else ⟨#[35]⟩ ++ strOfNums (hexK 16 (hashTo (whole give ts) (whole give ts).size))
theorem hashTo_lt (s : ByteArray) : ∀ k, hashTo s k < 18446744073709551616 := by
 intro k
 unfold hashTo
 have : ∀ (l : List UInt8) (h : Nat), h < 18446744073709551616 → l.foldl hStep h < 18446744073709551616 := by
  intro l
  induction l with
  | nil => intro h hh; exact hh
  | cons b l ih => intro h _; exact ih _ (Nat.mod_lt _ (by omega))
 exact this _ _ (by omega)
theorem hashTo_zero (s : ByteArray) : hashTo s 0 = 14695981039346656037 := by unfold hashTo; rw [List.take_zero, List.foldl_nil]
theorem hashTo_succ (s : ByteArray) (k : Nat) (h : k < s.size) : hashTo s (k + 1) = hStep (hashTo s k) s[k] := by
 unfold hashTo; rw [str_take s k h, List.foldl_append, List.foldl_cons, List.foldl_nil]
theorem hashStep (s : ByteArray) (k : Nat) (h : k < s.size) : IntKind.u64.wrap (bits BinOp.xor IntKind.u64 ((hashTo s k : Nat) : Int) ((s[k].toNat : Nat) : Int) * 1099511628211) = ((hashTo s (k + 1) : Nat) : Int) := by
 rw [bits_xor_u64_nat _ _ (hashTo_lt s k) (by have := s[k].toNat_lt; omega), IntKind.wrap_u64, hashTo_succ s k h]
 unfold hStep
 rw [Int.natCast_emod, Int.natCast_mul]
 rfl
theorem hexL_length_le : ∀ (k n : Nat), n < 16 ^ (k + 1) → (hexL n).length ≤ k + 1
 | 0, n, h => by rw [hexL_small (by simpa using h)]; simp
 | k + 1, n, h => by
  by_cases hn : n < 16
  ·rw [hexL_small hn]; simp
  ·rw [hexL_big hn, List.length_append]
   have := hexL_length_le k (n / 16) (by rw [Nat.pow_succ] at h; omega)
   simp; omega
theorem hexK_zero : ∀ k, hexK k 0 = List.replicate k 48
 | 0 => rfl
 | k + 1 => by rw [hexK, hexK_zero k, List.replicate_succ']; rfl
theorem hexK_pad : ∀ (k n : Nat), n < 16 ^ (k + 1) → hexK (k + 1) n = List.replicate (k + 1 - (hexL n).length) 48 ++ hexL n
 | 0, n, h => by
  have hn : n < 16 := by simpa using h
  rw [hexL_small hn, hexK, hexK, Nat.mod_eq_of_lt hn]; simp
 | k + 1, n, h => by
  by_cases hn : n < 16
  ·rw [hexL_small hn, hexK, Nat.mod_eq_of_lt hn, Nat.div_eq_of_lt hn, hexK_zero]; simp
  ·rw [hexL_big hn, hexK, hexK_pad k (n / 16) (by rw [Nat.pow_succ] at h; omega)]
   have := hexL_length_le k (n / 16) (by rw [Nat.pow_succ] at h; omega)
   rw [List.length_append, List.append_assoc]
   simp
theorem hexL_len (n : Nat) (h : n < 18446744073709551616) : 1 ≤ (hexL n).length ∧ (hexL n).length ≤ 16 := by
 refine ⟨?_, hexL_length_le 15 n (by simpa using h)⟩
 by_cases hn : n < 16
 ·rw [hexL_small hn]; simp
 ·rw [hexL_big hn]; simp
/-- the padding, as Repeat writes it -/
theorem pad16 (n : Nat) (h : n < 18446744073709551616) : (⟨(Lib.repeatL [48] (16 - (hexL n).length)).toArray⟩ : ByteArray) ++ strOfNums (hexL n) = strOfNums (hexK 16 n) := by
 rw [hexK_pad 15 n (by simpa using h)]
 apply ByteArray.ext
 have : Lib.repeatL [48] (16 - (hexL n).length) = List.replicate (16 - (hexL n).length) 48 := by
  have := Lib.repeatL_replicate 48 1 (16 - (hexL n).length); simpa using this
 rw [this]
 simp [strOfNums]
theorem joinB_zero (ts : List ByteArray) : joinB (ts.take 0) = ⟨#[]⟩ := by simp [joinB, Lib.join_nil]
theorem joinB_nil : joinB [] = ⟨#[]⟩ := by simp [joinB, Lib.join_nil]
theorem joinB_one (ts : List ByteArray) (h : 0 < ts.length) : joinB (ts.take 1) = ts[0] := by
 cases ts with
 | nil => simp at h
 | cons t ts => simp [joinB, Lib.join_one]
theorem joinB_succ (ts : List ByteArray) (k : Nat) (h : k + 1 < ts.length) : joinB (ts.take (k + 2)) = joinB (ts.take (k + 1)) ++ ⟨#[44]⟩ ++ ts[k + 1] := by
 cases ts with
 | nil => simp at h
 | cons t ts =>
  simp only [List.take_succ_cons, List.map_cons, joinB, Lib.join_cons]
  have hk : k < ts.length := by simpa using h
  rw [List.map_take, Lib.joinTail_take_succ _ _ k (ts[k]).data.toList (by simp [hk]), ← List.map_take]
  apply ByteArray.ext
  simp
theorem joinB_size (ts : List ByteArray) (h : ts.all txtOk = true) : (joinB ts).size ≤ ts.length * 201 := by
 cases ts with
 | nil => simp [joinB, Lib.join_nil]; rfl
 | cons t ts =>
  have key : ∀ l : List ByteArray, l.all txtOk = true → Lib.lens (l.map (·.data.toList)) ≤ l.length * 200 := by
   intro l
   induction l with
   | nil => intro _; simp [Lib.lens]
   | cons a l ih =>
    intro h
    simp only [List.all_cons, Bool.and_eq_true] at h
    have h1 := ih h.2
    have h2 : a.size ≤ 200 := by simpa [txtOk] using h.1
    have h3 : a.data.size = a.size := rfl
    simp only [Lib.lens, List.map_cons, List.sum_cons, Array.length_toList, List.length_cons] at h1 ⊢
    omega
  have h1 := key _ h
  show (Lib.join ((t :: ts).map (·.data.toList)) [44]).toArray.size ≤ _
  rw [List.size_toArray, List.map_cons, Lib.join_length]
  rw [List.map_cons] at h1
  simp only [List.length_cons, List.length_map, List.length_nil] at h1 ⊢
  omega
theorem joinB_take_size (ts : List ByteArray) (k : Nat) (h : allTo txtOk ts k) (hk : k ≤ ts.length) : (joinB (ts.take k)).size ≤ k * 201 := by
 have := joinB_size (ts.take k) h
 rw [List.length_take, Nat.min_eq_left hk] at this
 exact this
end Go.Proofs.YtkpkfihaihoaeaaGreatDoor.M
end
section
set_option linter.unusedVariables false
set_option linter.unusedSimpArgs false
namespace Go.Proofs.YtkpkfihaihoaeaaGreatDoor.M
open Go.RowKit
theorem hexK_length : ∀ (k n : Nat), (hexK k n).length = k
 | 0, _ => rfl
 | k + 1, n => by simp [hexK, hexK_length k]
theorem finish_size (g : ByteArray) (ts : List ByteArray) : (finish g ts).size ≤ 200 := by
 unfold finish
 split
 ·simp [ByteArray.size]
 ·split
  ·simp [ByteArray.size]
  ·split
   ·assumption
   ·rw [ByteArray.size_append, strOfNums_size, hexK_length]; simp [ByteArray.size]
def spentT : ByteArray := ⟨#[115, 112, 101, 110, 116]⟩
def goodT (xs : List Answer) : List ByteArray := (xs.filter fun x => !x.Fail).map Answer.Text
/-- a run comes to its step -/
def arrive (a : Action) (r : Run) : Run × List ByteArray :=
 (if (stepIn a r.At).End then { r with Visits := r.Visits + 1, Over := true, Fail := (stepIn a r.At).Bad, Text := finish (stepIn a r.At).Give r.Texts } else { r with Visits := r.Visits + 1 }, (stepIn a r.At).Asks)
/-- a run goes on with answers -/
def goRun (a : Action) (r : Run) (xs : List Answer) : Run × List ByteArray :=
 if (followS (stepIn a r.At) xs).Over then ({ r with Visits := r.Visits + 1, Over := true, Fail := true, Text := (followS (stepIn a r.At) xs).Text }, [])
 else arrive a { r with Texts := r.Texts ++ goodT xs, At := (followS (stepIn a r.At) xs).At }
/-- the next thing of a run -/
def nextRun (a : Action) (r : Run) (xs : List Answer) : Run × List ByteArray :=
 if r.Visits = 20 then ({ r with Over := true, Fail := true, Text := spentT }, []) else if r.Visits = 0 then arrive a r else goRun a r xs
def ansFor (W : Web) (R : List Run) (r : Run) : List Answer := (answersOf W R (stepOf W r).Asks).getD []
def nextOf (W : Web) (R : List Run) (r : Run) : Run × List ByteArray := nextRun (actOf W r.Name) r (ansFor W R r)
def doRun (W : Web) (R : List Run) (r : Run) : List Run := wants W (setR (nextOf W R r).1 R) (nextOf W R r).2
def doR (W : Web) (R : List Run) (q : ByteArray) : List Run := match runOf R q with
 | none => R
 | some r => doRun W R r
/-- what holds of the runs of a web -/
structure RunOk (W : Web) (r : Run) : Prop where
 web : hasN W.Nodes r.Name = true
 at0 : 0 ≤ r.At
 at1 : r.At < (actOf W r.Name).Steps.length
 vis0 : 0 ≤ r.Visits
 vis1 : r.Visits ≤ 20
 fresh : r.Visits = 0 → r = newRun r.Name
 mid : r.Over = false → 0 < r.Visits → (stepOf W r).End = false
 text : r.Text.size ≤ 200
 texts : ∀ t ∈ r.Texts, t.size ≤ 200
 many : (r.Texts.length : Int) ≤ 5 * r.Visits
structure Inv (W : Web) (R : List Run) : Prop where
 asc : Asc (R.map Run.Name)
 ok : ∀ r ∈ R, RunOk W r

theorem nodeOf_mem {xs : List Node} {q : ByteArray} (h : hasN xs q = true) : nodeOf xs q ∈ xs ∧ (nodeOf xs q).Name = q := by
 obtain ⟨n, hn, e⟩ := (hasN_iff xs q).1 h
 unfold nodeOf
 cases hf : xs.find? (nmB q) with
 | none => exact absurd ((nmB_iff q n).2 e) (by simpa using List.find?_eq_none.1 hf n hn)
 | some m => exact ⟨List.mem_of_find?_eq_some hf, (nmB_iff q m).1 (List.find?_some hf)⟩
theorem act_ok {W : Web} {q : ByteArray} (hw : checkWeb W = 0) (h : hasN W.Nodes q = true) : actionOk (actOf W q) = true := by
 obtain ⟨_, _, _, h4⟩ := checkWeb_ok hw
 exact List.all_eq_true.1 h4 _ (nodeOf_mem h).1
theorem stepIn_eq {a : Action} {n : Int} (h1 : n < a.Steps.length) (h0 : 0 ≤ n) : ∃ h : n.toNat < a.Steps.length, stepIn a n = a.Steps[n.toNat] := by
 have h : n.toNat < a.Steps.length := by omega
 exact ⟨h, by unfold stepIn; simp [List.getD_eq_getElem?_getD, h]⟩
theorem act_steps {a : Action} (h : actionOk a = true) : 1 ≤ a.Steps.length ∧ a.Steps.length ≤ 20 ∧ 1 ≤ a.Cost ∧ a.Cost ≤ 20 := by
 simp only [actionOk, Bool.and_eq_true, inB, decide_eq_true_eq] at h
 omega
theorem step_ok {a : Action} (h : actionOk a = true) {s : Step} (hs : s ∈ a.Steps) : stepOk s a.Steps.length = true := by
 simp only [actionOk, Bool.and_eq_true, List.all_eq_true] at h
 exact h.2 s hs
theorem end_ok {s : Step} {n : Int} (h : stepOk s n = true) (hE : s.End = true) : s.Asks = [] ∧ s.Cases = [] ∧ s.Give.size ≤ 30 := by
 simp [stepOk, hE, endOk] at h
 exact ⟨h.1.1.1.1.2, h.1.1.2, h.1.1.1.1.1⟩
theorem mid_ok {s : Step} {n : Int} (h : stepOk s n = true) (hE : s.End = false) : preOk s n = true ∧ namesOk s.Asks = true ∧ onOk s = true ∧ s.Cases.all (caseOk n) = true := by
 simp [stepOk, hE] at h
 exact ⟨h.1.1.1, h.1.1.2, h.1.2, by simpa using h.2⟩
theorem asks_ok {s : Step} {n : Int} (h : stepOk s n = true) : s.Asks.length ≤ 5 ∧ s.Asks.Nodup ∧ ∀ q ∈ s.Asks, nameOk q = true := by
 cases hE : s.End with
 | true => rw [(end_ok h hE).1]; simp
 | false =>
  obtain ⟨h1, h2, _⟩ := mid_ok h hE
  simp only [namesOk, Bool.and_eq_true, List.all_eq_true, decide_eq_true_eq] at h2
  exact ⟨(preOk_iff h1).2.2.1, h2.2, h2.1⟩
theorem failIx_lt {xs : List Answer} {i : Nat} (h : failIx xs = some i) : ∃ hi : i < xs.length, xs[i].Fail = true := by
 unfold failIx at h
 obtain ⟨h1, h2, _⟩ := List.findIdx?_eq_some_iff_getElem.1 h
 exact ⟨h1, h2⟩
theorem belowT_size (q : ByteArray) : (belowT q).size = 6 + q.size := by
 unfold belowT; rw [ByteArray.size_append]; rfl
theorem noT_size (q : ByteArray) : (noT q).size = 3 + q.size := by
 unfold noT; rw [ByteArray.size_append]; rfl
theorem follow_ok {a : Action} (h : actionOk a = true) {s : Step} (hs : s ∈ a.Steps) (hE : s.End = false) {xs : List Answer} (hl : xs.length = s.Asks.length) :
  ((followS s xs).Over = true → ∃ i, ∃ hi : i < s.Asks.length, failIx xs = some i ∧ (followS s xs).Text = belowT s.Asks[i]) ∧ ((followS s xs).Over = false → 0 ≤ (followS s xs).At ∧ (followS s xs).At < a.Steps.length) := by
 obtain ⟨h1, h2, h3, h4⟩ := mid_ok (step_ok h hs) hE
 obtain ⟨_, _, _, _, p5, p6⟩ := preOk_iff h1
 simp only [inB, decide_eq_true_eq] at p5 p6
 unfold followS
 cases hf : failIx xs with
 | some i =>
  obtain ⟨hi, hx⟩ := failIx_lt hf
  by_cases hF : s.Fall < 0
  ·simp only [hF, if_true]
   refine ⟨fun _ => ⟨i, by omega, rfl, ?_⟩, fun h => by cases h⟩
   simp [List.getD_eq_getElem?_getD, show i < s.Asks.length by omega]
  ·simp only [hF, if_false]
   exact ⟨(fun h => by cases h), fun _ => by omega⟩
 | none =>
  simp only
  refine ⟨(fun h => by cases h), fun _ => ?_⟩
  unfold gotoS
  split
  ·omega
  ·cases hc : caseOf s.Cases (onText s xs) with
   | none => simp only; omega
   | some c =>
    simp only
    unfold caseOf at hc
    have := List.all_eq_true.1 h4 c (List.mem_of_find?_eq_some hc)
    simp only [caseOk, Bool.and_eq_true, inB, decide_eq_true_eq] at this
    omega
theorem answersOf_len {W : Web} {R : List Run} : ∀ {qs : List ByteArray} {xs : List Answer}, answersOf W R qs = some xs → xs.length = qs.length
 | [], xs, h => by simp [answersOf] at h; rw [h]; rfl
 | q :: qs, xs, h => by
  unfold answersOf at h
  cases h1 : answerOf W R q with
  | none => rw [h1] at h; cases h
  | some x =>
   rw [h1] at h
   cases h2 : answersOf W R qs with
   | none => rw [h2] at h; cases h
   | some ys =>
    rw [h2] at h
    simp only [Option.some.injEq] at h
    rw [← h, List.length_cons, List.length_cons, answersOf_len h2]
theorem answersOf_get {W : Web} {R : List Run} : ∀ {qs : List ByteArray} {xs : List Answer}, answersOf W R qs = some xs → ∀ (i : Nat) (h : i < qs.length) (h' : i < xs.length), answerOf W R qs[i] = some xs[i]
 | q :: qs, xs, h, i, hi, hi' => by
  unfold answersOf at h
  cases h1 : answerOf W R q with
  | none => rw [h1] at h; cases h
  | some x =>
   rw [h1] at h
   cases h2 : answersOf W R qs with
   | none => rw [h2] at h; cases h
   | some ys =>
    rw [h2] at h
    simp only [Option.some.injEq] at h
    subst h
    cases i with
    | zero => simpa using h1
    | succ i => simpa using answersOf_get h2 i (by simpa using hi) (by simpa using hi')
theorem answersOf_none {W : Web} {R : List Run} : ∀ {qs : List ByteArray}, answersOf W R qs = none → ∃ q ∈ qs, answerOf W R q = none
 | [], h => by cases h
 | q :: qs, h => by
  unfold answersOf at h
  cases h1 : answerOf W R q with
  | none => exact ⟨q, List.mem_cons_self .., h1⟩
  | some x =>
   rw [h1] at h
   cases h2 : answersOf W R qs with
   | none =>
    obtain ⟨p, hp, e⟩ := answersOf_none h2
    exact ⟨p, List.mem_cons_of_mem _ hp, e⟩
   | some ys => rw [h2] at h; cases h
theorem answersOf_all {W : Web} {R : List Run} {qs : List ByteArray} (h : ∀ q ∈ qs, answerOf W R q ≠ none) : ∃ xs, answersOf W R qs = some xs := by
 cases h1 : answersOf W R qs with
 | some xs => exact ⟨xs, rfl⟩
 | none =>
  obtain ⟨q, hq, e⟩ := answersOf_none h1
  exact absurd e (h q hq)
theorem answersOf_congr {W : Web} {R S : List Run} : ∀ {qs : List ByteArray}, (∀ q ∈ qs, answerOf W R q = answerOf W S q) → answersOf W R qs = answersOf W S qs
 | [], _ => rfl
 | q :: qs, h => by
  unfold answersOf
  rw [h q (List.mem_cons_self ..), answersOf_congr (fun p hp => h p (List.mem_cons_of_mem _ hp))]
theorem answer_text {W : Web} {R : List Run} (hR : ∀ r ∈ R, RunOk W r) {q : ByteArray} (hq : nameOk q = true) {x : Answer} (h : answerOf W R q = some x) : x.Text.size ≤ 200 := by
 unfold answerOf at h
 split at h
 ·unfold runAns at h
  cases h1 : runOf R q with
  | none => rw [h1] at h; cases h
  | some r =>
   rw [h1] at h
   simp only at h
   split at h
   ·simp only [Option.some.injEq] at h
    rw [← h]
    exact (hR r (runOf_some h1).1).text
   ·cases h
 ·simp only [Option.some.injEq] at h
  rw [← h]
  have := nameOk_size hq
  simp only [noT_size]; omega
theorem answers_text {W : Web} {R : List Run} (hR : ∀ r ∈ R, RunOk W r) {qs : List ByteArray} (hq : ∀ q ∈ qs, nameOk q = true) {xs : List Answer} (h : answersOf W R qs = some xs) : ∀ x ∈ xs, x.Text.size ≤ 200 := by
 intro x hx
 obtain ⟨i, hi, rfl⟩ := List.getElem_of_mem hx
 have hl := answersOf_len h
 exact answer_text hR (hq _ (List.getElem_mem (by omega))) (answersOf_get h i (by omega) hi)
theorem goodT_text {xs : List Answer} (h : ∀ x ∈ xs, x.Text.size ≤ 200) : ∀ t ∈ goodT xs, t.size ≤ 200 := by
 intro t ht
 unfold goodT at ht
 obtain ⟨x, hx, rfl⟩ := List.mem_map.1 ht
 exact h x (List.mem_filter.1 hx).1
theorem goodT_len (xs : List Answer) : (goodT xs).length ≤ xs.length := by
 unfold goodT; rw [List.length_map]; exact List.length_filter_le _ _
theorem arrive_name (a : Action) (r : Run) : (arrive a r).1.Name = r.Name := by unfold arrive; split <;> rfl
theorem nextRun_name (a : Action) (r : Run) (xs : List Answer) : (nextRun a r xs).1.Name = r.Name := by
 unfold nextRun
 split
 ·rfl
 ·split
  ·exact arrive_name a r
  ·unfold goRun
   split
   ·rfl
   ·exact arrive_name a _
theorem nextOf_name (W : Web) (R : List Run) (r : Run) : (nextOf W R r).1.Name = r.Name := nextRun_name _ _ _
theorem runOf_doRun {W : Web} {R : List Run} (r : Run) (p : ByteArray) : runOf (doRun W R r) p = match runOf R p with
  | some x => some (if p = r.Name then (nextOf W R r).1 else x)
  | none => if p ∈ (nextOf W R r).2 ∧ hasN W.Nodes p = true then some (newRun p) else none := by
 unfold doRun
 rw [runOf_wants, runOf_setR, nextOf_name]
 cases h : runOf R p with
 | some x =>
  by_cases e : p = r.Name
  ·simp [e]
  ·simp [e]
 | none =>
  by_cases e : p = r.Name
  ·simp [e]
  ·simp [e]
theorem doRun_asc {W : Web} {R : List Run} (r : Run) (h : AscR R) : AscR (doRun W R r) := wants_asc _ (setR_asc h)
theorem ready_ans {W : Web} {R : List Run} {r : Run} (h : isReady W R r = true) (hv : r.Visits ≠ 0) : answersOf W R (stepOf W r).Asks = some (ansFor W R r) := by
 simp only [isReady, Bool.and_eq_true, Bool.or_eq_true, beq_iff_eq] at h
 rcases h.2 with h2 | h2
 ·exact absurd h2 hv
 ·unfold ansFor
  cases hh : answersOf W R (stepOf W r).Asks with
  | none => rw [hh] at h2; cases h2
  | some xs => rfl
theorem ready_over {W : Web} {R : List Run} {r : Run} (h : isReady W R r = true) : r.Over = false := by
 simp only [isReady, Bool.and_eq_true, Bool.not_eq_true'] at h
 exact h.1
theorem newRun_ok {W : Web} {q : ByteArray} (hw : checkWeb W = 0) (h : hasN W.Nodes q = true) : RunOk W (newRun q) where
 web := h
 at0 := Int.le_refl _
 at1 := by have := act_steps (act_ok hw h); simp only [newRun]; omega
 vis0 := Int.le_refl _
 vis1 := by simp [newRun]
 fresh := fun _ => rfl
 mid := fun _ h => absurd h (Int.lt_irrefl _)
 text := Nat.zero_le _
 texts := fun t ht => by cases ht
 many := by simp [newRun]
theorem arrive_ok {W : Web} {r : Run} (hw : checkWeb W = 0) (h : hasN W.Nodes r.Name = true) (h0 : 0 ≤ r.At) (h1 : r.At < (actOf W r.Name).Steps.length) (hv0 : 0 ≤ r.Visits) (hv1 : r.Visits < 20)
  (ht : r.Text.size ≤ 200) (hts : ∀ t ∈ r.Texts, t.size ≤ 200) (hm : (r.Texts.length : Int) ≤ 5 * (r.Visits + 1)) (ho : r.Over = false) : RunOk W (arrive (actOf W r.Name) r).1 := by
 unfold arrive
 cases hE : (stepIn (actOf W r.Name) r.At).End with
 | true =>
  simp only [if_true]
  exact ⟨h, h0, h1, by simp only; omega, by simp only; omega, fun h => by simp only at h; omega, (fun h => by cases h), finish_size _ _, hts, by simp only; omega⟩
 | false =>
  simp only [Bool.false_eq_true, if_false]
  exact ⟨h, h0, h1, by simp only; omega, by simp only; omega, fun h => by simp only at h; omega, fun _ _ => hE, ht, hts, by simp only; omega⟩
theorem next_ok {W : Web} {R : List Run} {r : Run} (hw : checkWeb W = 0) (hR : ∀ r ∈ R, RunOk W r) (hr : RunOk W r) (h : isReady W R r = true) : RunOk W (nextOf W R r).1 := by
 have ho := ready_over h
 unfold nextOf nextRun
 split
 ·exact ⟨hr.web, hr.at0, hr.at1, hr.vis0, hr.vis1, fun h => by simp only at h; omega, (fun h => by cases h), (show spentT.size ≤ 200 by decide), hr.texts, hr.many⟩
 ·split
  ·have e := hr.fresh (by assumption)
   exact arrive_ok hw hr.web hr.at0 hr.at1 hr.vis0 (by omega) hr.text hr.texts (by have := hr.many; omega) ho
  ·rename_i hv1 hv0
   have ha := ready_ans h hv0
   have h0 := hr.vis0
   have h1 := hr.vis1
   have hmid := hr.mid ho (by omega)
   obtain ⟨hi, es⟩ := stepIn_eq hr.at1 hr.at0
   have hs : stepIn (actOf W r.Name) r.At ∈ (actOf W r.Name).Steps := by rw [es]; exact List.getElem_mem hi
   have hl := answersOf_len ha
   obtain ⟨f1, f2⟩ := follow_ok (act_ok hw hr.web) hs hmid hl
   obtain ⟨a1, a2, a3⟩ := asks_ok (step_ok (act_ok hw hr.web) hs)
   unfold goRun
   split
   ·rename_i hO
    obtain ⟨i, hi, _, e⟩ := f1 hO
    refine ⟨hr.web, hr.at0, hr.at1, by simp only; omega, by simp only; omega, fun h => by simp only at h; omega, (fun h => by cases h), ?_, hr.texts, by simp only; have := hr.many; omega⟩
    rw [show ({ r with Visits := r.Visits + 1, Over := true, Fail := true, Text := (followS (stepIn (actOf W r.Name) r.At) (ansFor W R r)).Text } : Run).Text = _ from rfl, e, belowT_size]
    have := nameOk_size (a3 _ (List.getElem_mem hi))
    omega
   ·rename_i hO
    obtain ⟨g0, g1⟩ := f2 (by simpa using hO)
    have hx := answers_text hR a3 ha
    refine arrive_ok (r := { r with Texts := r.Texts ++ goodT (ansFor W R r), At := (followS (stepIn (actOf W r.Name) r.At) (ansFor W R r)).At }) hw hr.web g0 g1 hr.vis0 (by simp only; omega) hr.text ?_ ?_ ho
    ·intro t ht
     rcases List.mem_append.1 ht with ht | ht
     ·exact hr.texts t ht
     ·exact goodT_text hx t ht
    ·have := goodT_len (ansFor W R r)
     have := hr.many
     simp only [List.length_append]
     change (ansFor W R r).length = (stepIn (actOf W r.Name) r.At).Asks.length at hl
     omega
theorem doRun_inv {W : Web} {R : List Run} {r : Run} (hw : checkWeb W = 0) (hR : Inv W R) (hr : r ∈ R) (h : isReady W R r = true) : Inv W (doRun W R r) := by
 refine ⟨doRun_asc r hR.asc, fun x hx => ?_⟩
 rcases mem_wants _ hx with hx | ⟨q, _, rfl, hq⟩
 ·rcases mem_setR hx with rfl | ⟨hx, _⟩
  ·exact next_ok hw hR.ok (hR.ok r hr) h
  ·exact hR.ok x hx
 ·exact newRun_ok hw hq
theorem begin_inv {W : Web} (hw : checkWeb W = 0) (roots : List ByteArray) : Inv W (begin_ W roots) := by
 refine ⟨wants_asc _ AscR.nil, fun x hx => ?_⟩
 rcases mem_wants _ hx with hx | ⟨q, _, rfl, hq⟩
 ·cases hx
 ·exact newRun_ok hw hq
end Go.Proofs.YtkpkfihaihoaeaaGreatDoor.M
end
section
set_option linter.unusedVariables false
set_option linter.unusedSimpArgs false
namespace Go.Proofs.YtkpkfihaihoaeaaGreatDoor.M
open Go.RowKit
theorem name_inj {xs : List Node} (ha : Asc (xs.map Node.Name)) {x y : Node} (hx : x ∈ xs) (hy : y ∈ xs) (he : x.Name = y.Name) : x = y := by
 obtain ⟨i, hi, rfl⟩ := List.getElem_of_mem hx
 obtain ⟨j, hj, rfl⟩ := List.getElem_of_mem hy
 have hp := List.pairwise_iff_getElem.1 ha
 rcases Nat.lt_trichotomy i j with h | h | h
 ·have := hp i j (by simpa using hi) (by simpa using hj) h
  simp only [List.getElem_map] at this
  rw [he, ltS_irr] at this; cases this
 ·subst h; rfl
 ·have := hp j i (by simpa using hj) (by simpa using hi) h
  simp only [List.getElem_map] at this
  rw [he, ltS_irr] at this; cases this
theorem node_at {xs : List Node} {q : ByteArray} {k : Nat} (h : FindAt xs q k) (ha : Asc (xs.map Node.Name)) (hq : hasN xs q = true) : ∃ hk : k < xs.length, nodeOf xs q = xs[k] := by
 obtain ⟨hk, he⟩ := (h.there ha).1 hq
 obtain ⟨h1, h2⟩ := nodeOf_mem hq
 exact ⟨hk, name_inj ha h1 (List.getElem_mem hk) (h2.trans he.symm)⟩
/-- an action handed back -/
def ActP (tS tC : Nat) (a : Action) (W0 w : World) (e : Ending) (w' : World) : Prop := ∃ A c, e = .returned (.agg #[.int .i64 a.Cost, .slice A a.Steps.length c]) ∧ rep W0 (StepsT tS tC a.Steps) (.slice A a.Steps.length c) ∧ rep w (StepsT tS tC a.Steps) (.slice A a.Steps.length c) ∧ Below w.heap.size w w'
set_option maxRecDepth 100000 in
set_option maxHeartbeats 2000000 in
theorem action_calls {lo : Nat} {W : Web} {roots : List ByteArray} {R : List Run} {e : Nat} {F : List Nat} {m : Nat} {nv rv : Value} {L : List Ent} {Fr : List Nat} {W0 : World} {tN tS tC : Nat} (q : ByteArray) (w : World) (hX : EngX lo w W roots R e F m nv rv L Fr W0 tN tS tC) (ha : Asc (W.Nodes.map Node.Name)) (hn : W.Nodes.length ≤ 1000000) (hq : hasN W.Nodes q = true) :
  Calls Tryz.prog 98 #[.pointer (some ⟨e, 0, none⟩), .string q] w (ActP tS tC (actOf W q) W0 w) := by
 obtain ⟨A, c, B, d, rfl, rfl, _, _, c0, c1, c2⟩ := hX.cells
 have hreps := Asd.mk hX.reps
 have hnodes := Asd.mk hX.nodes
 have hbelow := Asd.mk hX.below
 have he : e < w.heap.size := hX.lt e (by rw [hX.foot]; simp)
 clear hX
 have ha := Asd.mk ha
 go_enter Tryz.func98, Tryz.ntmps98
 go_wp2_with fail
 refine (find_calls W q _ (hreps.out.below (below_al (Below.refl _ _) _)) ha.out hn).mono ?_
 rintro e' w1 ⟨k, hk, rfl, hb⟩
 rw [hq]
 obtain ⟨hkl, hno⟩ := node_at hk ha.out hq
 have hb1 : Below w.heap.size w w1 := below_st (by repeat first|with_reducible (first|exact Below.refl _ _|exact Below.refl _ _|refine below_al ?_ _|refine below_dr ?_ _|refine below_d1 ?_)|(with_reducible refine Below.setCell ?_ ?_ _;rotate_left;next => first|(simp;done)|(simp;omega)|omega)) hb
 obtain ⟨a, c', v2, hv, k0, k1, k2, k3, _⟩ := Node.elem hnodes.out hkl
 cases hv
 replace k1 := cell_below hbelow.out k1
 replace k2 := cell_below hbelow.out k2
 obtain ⟨A2, c2', rfl, _, _⟩ := rep_len k3
 have x1 := cell_below hb1 k1
 have x2 := cell_below hb1 k2
 have x0 := cell_below hb1 c0
 obtain ⟨hcx, hfx⟩ := bcell hb
 have r0 : w1.cell? ⟨w.heap.size, 0, none⟩ = some (.int .i64 0) := by rw [hcx _ _ (by simp)]; go_simp
 have r1 : w1.cell? ⟨w.heap.size, 1, none⟩ = some (.slice none 0 0) := by rw [hcx _ _ (by simp)]; go_simp
 have f0 : w1.frozen? ⟨w.heap.size, 0, none⟩ = false := by rw [hfx _ _ (by simp)]; go_simp
 have f1 : w1.frozen? ⟨w.heap.size, 1, none⟩ = false := by rw [hfx _ _ (by simp)]; go_simp
 replace hb1 := Asd.mk hb1
 replace k3 := Asd.mk k3
 have hno := Asd.mk hno
 have hz1 := hb.size
 clear hcx hfx hb hk
 go_wp2
 refine bodyPost_ret (v := .agg #[.int .i64 W.Nodes[k].Action.Cost, .slice A2 W.Nodes[k].Action.Steps.length c2']) (by simp [results, Tryz.results98, go_sem, *]) rfl ?_
 have ea : actOf W q = W.Nodes[k].Action := by unfold actOf; rw [hno.out]
 rw [ea]
 exact ⟨_, _, rfl, k3.out, k3.out.below hbelow.out, by repeat first|with_reducible (first|exact Below.refl _ _|exact hb1.out|refine below_al ?_ _|refine below_dr ?_ _|refine below_d1 ?_)|(with_reducible refine Below.setCell ?_ ?_ _;rotate_left;next => first|(simp;done)|(simp;omega)|omega)⟩
end Go.Proofs.YtkpkfihaihoaeaaGreatDoor.M
end
section
set_option linter.unusedVariables false
set_option linter.unusedSimpArgs false
namespace Go.Proofs.YtkpkfihaihoaeaaGreatDoor.M
open Go.RowKit
def ansOr (o : Option Answer) : Answer := o.getD ⟨false, ⟨#[]⟩⟩
def ansV (o : Option Answer) : Value := .tuple #[.agg #[.bool (ansOr o).Fail, .string (ansOr o).Text], .bool o.isSome]
theorem ans_out {W : Web} {R : List Run} {q : ByteArray} (h : hasN W.Nodes q = false) : answerOf W R q = some ⟨true, noT q⟩ := by unfold answerOf; rw [h]; rfl
theorem ans_in {W : Web} {R : List Run} {q : ByteArray} (h : hasN W.Nodes q = true) : answerOf W R q = runAns (runOf R q) := by unfold answerOf; rw [h]; rfl
set_option maxRecDepth 100000 in
set_option maxHeartbeats 2000000 in
theorem answer_calls {lo : Nat} {W : Web} {roots : List ByteArray} {R : List Run} {e : Nat} {F : List Nat} {m : Nat} {nv rv : Value} {L : List Ent} {Fr : List Nat} {W0 : World} {tN tS tC : Nat} (q : ByteArray) (w : World) (hX : EngX lo w W roots R e F m nv rv L Fr W0 tN tS tC) (ha : Asc (W.Nodes.map Node.Name)) (hn : W.Nodes.length ≤ 1000000) (hs : q.size ≤ 1000000) :
  Calls Tryz.prog 155 #[.pointer (some ⟨e, 0, none⟩), .string q] w fun e' w' => e' = .returned (ansV (answerOf W R q)) ∧ Below w.heap.size w w' := by
 obtain ⟨A, c, B, d, rfl, rfl, _, _, c0, c1, c2⟩ := hX.cells
 have hreps := Asd.mk hX.reps
 have he : e < w.heap.size := hX.lt e (by rw [hX.foot]; simp)
 replace hX := Asd.mk hX
 have ha := Asd.mk ha
 have hs2 : ¬9223372036854775807 < 3 + q.size := by omega
 have HB := Asd.mk (below_al (Below.refl w.heap.size w) (.cells #[.bool false, .string ⟨#[]⟩] 102))
 by_cases q1 : hasN W.Nodes q = true
 rotate_left
 ·have q1 := Bool.eq_false_iff.2 q1
  have e1 := Asd.mk (ans_out (R := R) q1)
  go_enter Tryz.func155, Tryz.ntmps155
  go_wp2_with fail
  refine (find_calls W q _ (hreps.out.below HB.out) ha.out hn).mono ?_
  rintro e' w1 ⟨k, hk, rfl, hb⟩
  rw [q1]
  obtain ⟨hcx, hfx⟩ := bcell hb
  have HW := Asd.mk (below_st HB.out hb)
  have hz1 := hb.size
  clear hb
  go_wp2
  refine bodyPost_ret (v := .tuple #[.agg #[.bool true, .string (⟨#[110, 111, 32]⟩ ++ q)], .bool true]) (by simp [results, Tryz.results155, go_sem, *]) rfl ?_
  rw [e1.out]
  exact ⟨rfl, by repeat first|with_reducible (first|exact Below.refl _ _|exact HW.out|refine below_al ?_ _|refine below_dr ?_ _|refine below_d1 ?_)|(with_reducible refine Below.setCell ?_ ?_ _;rotate_left;next => first|(simp;done)|(simp;omega)|omega)⟩
 cases hr : runOf R q with
 | none =>
  have e1 := Asd.mk (show answerOf W R q = none by rw [ans_in q1, hr]; rfl)
  go_enter Tryz.func155, Tryz.ntmps155
  go_wp2_with fail
  refine (find_calls W q _ (hreps.out.below HB.out) ha.out hn).mono ?_
  rintro e' w1 ⟨k, hk, rfl, hb⟩
  rw [q1]
  have hl := (hX.out.later (below_st HB.out hb)).run_none hr
  have x2 := cell_below (below_st HB.out hb) c2
  obtain ⟨hcx, hfx⟩ := bcell hb
  have HW := Asd.mk (below_st HB.out hb)
  have hz1 := hb.size
  clear hb
  go_wp2
  refine bodyPost_ret (v := .tuple #[.agg #[.bool false, .string ⟨#[]⟩], .bool false]) (by simp [results, Tryz.results155, go_sem, *]) rfl ?_
  rw [e1.out]
  exact ⟨rfl, by repeat first|with_reducible (first|exact Below.refl _ _|exact HW.out|refine below_al ?_ _|refine below_dr ?_ _|refine below_d1 ?_)|(with_reducible refine Below.setCell ?_ ?_ _;rotate_left;next => first|(simp;done)|(simp;omega)|omega)⟩
 | some r =>
  obtain ⟨rn, ro, rf, rt, ra, rv2, rts⟩ := r
  cases ro with
  | false =>
   have e1 := Asd.mk (show answerOf W R q = none by rw [ans_in q1, hr]; rfl)
   go_enter Tryz.func155, Tryz.ntmps155
   go_wp2_with fail
   refine (find_calls W q _ (hreps.out.below HB.out) ha.out hn).mono ?_
   rintro e' w1 ⟨k, hk, rfl, hb⟩
   rw [q1]
   obtain ⟨x, hx, hxr, hl⟩ := (hX.out.later (below_st HB.out hb)).run_some hr
   have hR := ((hX.out.later (below_st HB.out hb)).runs x hx).1
   rw [hxr] at hR
   have y1 : w1.cell? ⟨x.b, 1, none⟩ = some (.bool false) := cellOf hR (i := 1) rfl
   have x2 := cell_below (below_st HB.out hb) c2
   obtain ⟨hcx, hfx⟩ := bcell hb
   have HW := Asd.mk (below_st HB.out hb)
   have hz1 := hb.size
   clear hb hR
   go_wp2
   refine bodyPost_ret (v := .tuple #[.agg #[.bool false, .string ⟨#[]⟩], .bool false]) (by simp [results, Tryz.results155, go_sem, *]) rfl ?_
   rw [e1.out]
   exact ⟨rfl, by repeat first|with_reducible (first|exact Below.refl _ _|exact HW.out|refine below_al ?_ _|refine below_dr ?_ _|refine below_d1 ?_)|(with_reducible refine Below.setCell ?_ ?_ _;rotate_left;next => first|(simp;done)|(simp;omega)|omega)⟩
  | true =>
   have e1 := Asd.mk (show answerOf W R q = some ⟨rf, rt⟩ by rw [ans_in q1, hr]; rfl)
   go_enter Tryz.func155, Tryz.ntmps155
   go_wp2_with fail
   refine (find_calls W q _ (hreps.out.below HB.out) ha.out hn).mono ?_
   rintro e' w1 ⟨k, hk, rfl, hb⟩
   rw [q1]
   obtain ⟨x, hx, hxr, hl⟩ := (hX.out.later (below_st HB.out hb)).run_some hr
   have hR := ((hX.out.later (below_st HB.out hb)).runs x hx).1
   rw [hxr] at hR
   have y1 : w1.cell? ⟨x.b, 1, none⟩ = some (.bool true) := cellOf hR (i := 1) rfl
   have y2 : w1.cell? ⟨x.b, 2, none⟩ = some (.bool rf) := cellOf hR (i := 2) rfl
   have y3 : w1.cell? ⟨x.b, 3, none⟩ = some (.string rt) := cellOf hR (i := 3) rfl
   have x2 := cell_below (below_st HB.out hb) c2
   obtain ⟨hcx, hfx⟩ := bcell hb
   have HW := Asd.mk (below_st HB.out hb)
   have hz1 := hb.size
   clear hb hR
   go_wp2
   go_region
   go_wp2
   refine bodyPost_ret (v := .tuple #[.agg #[.bool rf, .string rt], .bool true]) (by simp [results, Tryz.results155, go_sem, *]) rfl ?_
   rw [e1.out]
   exact ⟨rfl, by repeat first|with_reducible (first|exact Below.refl _ _|exact HW.out|refine below_al ?_ _|refine below_dr ?_ _|refine below_d1 ?_)|(with_reducible refine Below.setCell ?_ ?_ _;rotate_left;next => first|(simp;done)|(simp;omega)|omega)⟩
end Go.Proofs.YtkpkfihaihoaeaaGreatDoor.M
end
section
set_option linter.unusedVariables false
set_option linter.unusedSimpArgs false
namespace Go.Proofs.YtkpkfihaihoaeaaGreatDoor.M
open Go.RowKit

theorem info_Answer : (Tryz.prog.info? 102).map (fun i => (i.zero, i.size, i.bytes)) = some (some (.agg #[.bool false, .string ⟨#[]⟩]), 2, 24) := by kernel_rfl
theorem z_Answer (W : World) : owns W (zAnswer.c) (Value.agg #[.bool false, .string ⟨#[]⟩]).cells.toList [] := by have h := Answer.omk (w := W) zAnswer ; simpa [Value.cells, zAnswer] using h
end Go.Proofs.YtkpkfihaihoaeaaGreatDoor.M
end
section
set_option linter.unusedVariables false
set_option linter.unusedSimpArgs false
namespace Go.Proofs.YtkpkfihaihoaeaaGreatDoor.M
open Go.RowKit
theorem answersOf_snoc {W : Web} {R : List Run} : ∀ (l : List ByteArray) (q : ByteArray), answersOf W R (l ++ [q]) = match answersOf W R l with
  | none => none
  | some xs => match answerOf W R q with
   | none => none
   | some x => some (xs ++ [x])
 | [], q => by
  simp only [List.nil_append, answersOf]
  cases answerOf W R q <;> rfl
 | p :: l, q => by
  simp only [List.cons_append, answersOf, answersOf_snoc l q]
  cases answerOf W R p with
  | none => rfl
  | some y =>
   simp only
   cases answersOf W R l with
   | none => rfl
   | some ys =>
    simp only
    cases answerOf W R q <;> rfl
theorem answersOf_step {W : Web} {R : List Run} {qs : List ByteArray} {k : Nat} {xs : List Answer} {x : Answer} (hk : k < qs.length) (h : answersOf W R (qs.take k) = some xs) (hx : answerOf W R qs[k] = some x) : answersOf W R (qs.take (k + 1)) = some (xs ++ [x]) := by
 rw [List.take_succ_eq_append_getElem hk, answersOf_snoc, h, hx]
theorem answersOf_no {W : Web} {R : List Run} {qs : List ByteArray} {k : Nat} (hk : k < qs.length) (hx : answerOf W R qs[k] = none) : answersOf W R qs = none := by
 cases h : answersOf W R qs with
 | none => rfl
 | some xs =>
  have hl := answersOf_len h
  have := answersOf_get h k hk (by omega)
  rw [hx] at this; cases this
theorem AnswersT_snoc (t : Nat) (xs : List Answer) (x : Answer) : AnswersT t (xs ++ [x]) = .l t 2 (xs.length + 1) (xs.flatMap Answer.c ++ Answer.c x) := by
 unfold AnswersT tl; rw [List.length_append, List.flatMap_append]; simp
theorem heap_alloc_new1 (w : World) (o o' : Obj) : ((w.alloc o).alloc o').heap[w.heap.size + 1]? = some o' := by
 have := heap_alloc_new (w.alloc o) o'
 simpa using this
/-- the answers handed back -/
def AnsP (lo : Nat) (o : Option (List Answer)) (w : World) (e : Ending) (w' : World) : Prop := match o with
 | none => e = .returned (.tuple #[.slice none 0 0, .bool false]) ∧ Below w.heap.size w w'
 | some xs => ∃ v, e = .returned (.tuple #[v, .bool true]) ∧ Lie lo w' (AnswersT 102 xs) v ∧ Below w.heap.size w w'
set_option maxRecDepth 100000 in
set_option maxHeartbeats 4000000 in
theorem answers_calls {lo : Nat} {W : Web} {roots : List ByteArray} {R : List Run} {e : Nat} {F : List Nat} {m : Nat} {nv rv : Value} {L : List Ent} {Fr : List Nat} {W0 : World} {tN tS tC tD : Nat} (s : Step) (w : World) {vs : List Value} (hX : EngX lo w W roots R e F m nv rv L Fr W0 tN tS tC) (h : reps w (Step.c tD s) vs) (ha : Asc (W.Nodes.map Node.Name)) (hn : W.Nodes.length ≤ 1000000) (hq : ∀ q ∈ s.Asks, q.size ≤ 1000000) (hl : s.Asks.length ≤ 100000) :
  Calls Tryz.prog 148 #[.pointer (some ⟨e, 0, none⟩), .agg vs.toArray] w (AnsP w.heap.size (answersOf W R s.Asks) w) := by
 obtain ⟨v0, v2, rfl, h0, h2⟩ := Step.ropen h
 obtain ⟨A, c, rfl, _, _⟩ := rep_len h0
 obtain ⟨A2, c2, rfl, _, _⟩ := rep_len h2
 replace h0 := Asd.mk h0
 replace hX := Asd.mk hX
 replace ha := Asd.mk ha
 clear h h2
 go_enter Tryz.func148, Tryz.ntmps148
 go_upto_region 2 with (fail)
 obtain ⟨X, eX⟩ : ∃ X : World, X = w.alloc (.cells #[.slice A s.Asks.length c, .int .i64 s.On, .slice A2 s.Cases.length c2, .int .i64 s.Else, .int .i64 s.Fall, .bool s.End, .bool s.Bad, .string s.Give] 121) := ⟨_, rfl⟩
 rw [← eX]
 have hbX := Asd.mk (show Below w.heap.size w X from eX ▸ below_al (Below.refl _ _) _)
 have hX0 : X.cell? ⟨w.heap.size, 0, none⟩ = some (.slice A s.Asks.length c) := by rw [eX]; go_simp
 have zX : w.heap.size < X.heap.size := by rw [eX]; simp
 clear eX
 go_wp2
 go_loopw [6, 14] (fun s6 i wr => ∃ (k : Nat) (xs : List Answer), k ≤ s.Asks.length ∧ i = .int .i64 k ∧ answersOf W R (s.Asks.take k) = some xs ∧ Lie X.heap.size wr (AnswersT 102 xs) s6 ∧ Below X.heap.size X wr) (fun _ i _ => s.Asks.length - (intOf i).toNat)
 case atStart => exact ⟨0, [], by omega, rfl, by rw [List.take_zero]; rfl, ⟨[], own_nil _ _ _, List.nodup_nil, fun b hb => by cases hb⟩, Below.refl _ _⟩
 case round =>
  obtain ⟨k, xs, hk, rfl, hxs, hL, hbr⟩ := hrel
  have hxl : xs.length ≤ k := by have := answersOf_len hxs; rw [List.length_take] at this; omega
  obtain ⟨Ax, cx, rfl, _, _⟩ := hL.slice
  have hbw : Below w.heap.size w wr := below_st hbX.out hbr
  have hzr := hbr.size
  by_cases hlt : k < s.Asks.length
  ·obtain ⟨a, c', he, hcell⟩ := str_elem (h0.out.below hbw) hlt
   cases he
   have hqs := hq _ (List.getElem_mem hlt)
   have hXr := Asd.mk (hX.out.later hbw)
   replace hbw := Asd.mk hbw
   replace hL := Asd.mk hL
   replace hbr := Asd.mk hbr
   replace hxs := Asd.mk hxs
   go_wp2_with fail
   refine (answer_calls s.Asks[k] _ hXr.out ha.out hn hqs).mono ?_
   rintro e' w1 ⟨rfl, hb⟩
   have hb1 := Asd.mk (below_st hbr.out hb)
   have hb0 := Asd.mk hb
   have hz1 := hb.size
   clear hb
   cases hA : answerOf W R s.Asks[k] with
   | none =>
    have e1 := Asd.mk (answersOf_no hlt hA)
    simp only [ansV, ansOr, Option.getD_none, Option.isSome_none]
    go_wp2
    refine bodyPost_ret (v := .tuple #[.slice none 0 0, .bool false]) (by simp [results, Tryz.results148, go_sem, *]) rfl ?_
    rw [e1.out]
    exact ⟨rfl, by repeat first|with_reducible (first|exact Below.refl _ _|exact below_st hbX.out hb1.out|refine below_al ?_ _|refine below_dr ?_ _|refine below_d1 ?_)|(with_reducible refine Below.setCell ?_ ?_ _;rotate_left;next => first|(simp;done)|(simp;omega)|omega)⟩
   | some x =>
    have e1 := Asd.mk (answersOf_step hlt hxs.out hA)
    simp only [ansV, ansOr, Option.getD_some, Option.isSome_some]
    go_wp2_with (at_builtin; refine appL rfl rfl Tryz.underlying173 info_Answer rfl (by decide) rfl (lo := X.heap.size) (wr := wr) (by omega) hL.out (by repeat first|with_reducible (first|exact Below.refl _ _|exact hb0.out|refine below_al ?_ _|refine below_dr ?_ _|refine below_d1 ?_)|(with_reducible refine Below.setCell ?_ ?_ _;rotate_left;next => first|(simp;done)|(simp;omega)|omega)) rfl (one_cells (heap_alloc_new1 _ _ _)) (by simp) ⟨[], Answer.omk x, List.nodup_nil, fun b hb => by cases hb⟩ (by simp [maxLen]; omega) (by omega) ?_)
    intro v7 w7 hL7 hF7
    obtain ⟨A7, d7, rfl, _, _⟩ := hL7.slice
    have hb7 := Asd.mk (Far.trans (show Below X.heap.size X _ from by repeat first|with_reducible (first|exact Below.refl _ _|exact hb1.out|refine below_al ?_ _|refine below_dr ?_ _|refine below_d1 ?_)|(with_reducible refine Below.setCell ?_ ?_ _;rotate_left;next => first|(simp;done)|(simp;omega)|omega)) hF7 (by omega) (by simp; omega))
    replace hL7 := Asd.mk hL7
    clear hF7
    go_wp2
    go_roundw
    case rel => exact ⟨k + 1, xs ++ [x], by omega, by go_num, e1.out, by rw [AnswersT_snoc]; simpa using hL7.out, by repeat first|with_reducible (first|exact Below.refl _ _|exact hb7.out|refine below_al ?_ _|refine below_dr ?_ _|refine below_d1 ?_)|(with_reducible refine Below.setCell ?_ ?_ _;rotate_left;next => first|(simp;done)|(simp;omega)|omega)⟩
    case measure => simp [intOf]; omega
  ·obtain rfl : k = s.Asks.length := by omega
   rw [List.take_length] at hxs
   have e1 := Asd.mk hxs
   replace hL := Asd.mk hL
   replace hbw := Asd.mk hbw
   go_wp2
   refine bodyPost_ret (v := .tuple #[.slice Ax xs.length cx, .bool true]) (by simp [results, Tryz.results148, go_sem, *]) rfl ?_
   rw [e1.out]
   exact ⟨_, rfl, hL.out.mono (by omega), hbw.out⟩
end Go.Proofs.YtkpkfihaihoaeaaGreatDoor.M
end
section
set_option linter.unusedVariables false
set_option linter.unusedSimpArgs false
namespace Go.Proofs.YtkpkfihaihoaeaaGreatDoor.M
open Go.RowKit
set_option maxRecDepth 100000 in
set_option maxHeartbeats 4000000 in
theorem answer3_calls {t tN tS tC : Nat} (W : Web) (l : List Run) (q : ByteArray) (kb : Nat) (A B : Option Addr) (c d : Nat) (w : World) (c0 : w.cell? ⟨kb, 0, none⟩ = some (.slice A W.Nodes.length c)) (c1 : w.cell? ⟨kb, 1, none⟩ = some (.slice B l.length d)) (hw : rep w (NodesT tN tS tC W.Nodes) (.slice A W.Nodes.length c)) (h : rep w (RunsT t l) (.slice B l.length d)) (hl : l.length ≤ 1000000) (hs : q.size ≤ 1000000) :
  Calls Tryz.prog 90 #[.pointer (some ⟨kb, 0, none⟩), .string q] w fun e' w' => e' = .returned (ansV (answerOf W l q)) ∧ Below w.heap.size w w' := by
 have hkb := World.block_lt_of_cell? _ _ c0
 replace h := Asd.mk h
 replace hw := Asd.mk hw
 have hs2 : ¬9223372036854775807 < 3 + q.size := by omega
 have HB := Asd.mk (below_al (Below.refl w.heap.size w) (.cells #[.bool false, .string ⟨#[]⟩] 102))
 by_cases q1 : hasN W.Nodes q = true
 rotate_left
 ·have q1 := Bool.eq_false_iff.2 q1
  have e1 := Asd.mk (ans_out (R := l) q1)
  have hN := Asd.mk (atN_out q1)
  go_enter Tryz.func90, Tryz.ntmps90
  go_wp2_with fail
  refine (l2At_calls W q _ (Web.rmk W (hw.out.below HB.out))).mono ?_
  rw [hN.out]
  rintro e' w1 ⟨rfl, hb⟩
  obtain ⟨hcx, hfx⟩ := bcell hb
  have HW := Asd.mk (below_st HB.out hb)
  have hz1 := hb.size
  clear hb
  go_wp2
  refine bodyPost_ret (v := .tuple #[.agg #[.bool true, .string (⟨#[110, 111, 32]⟩ ++ q)], .bool true]) (by simp [results, Tryz.results90, go_sem, *]) rfl ?_
  rw [e1.out]
  exact ⟨rfl, by repeat first|with_reducible (first|exact Below.refl _ _|exact HW.out|refine below_al ?_ _|refine below_dr ?_ _|refine below_d1 ?_)|(with_reducible refine Below.setCell ?_ ?_ _;rotate_left;next => first|(simp;done)|(simp;omega)|omega)⟩
 have g0 : ¬atN W.Nodes q < 0 := fun h => by rw [(atN_neg _ _).1 h] at q1; cases q1
 obtain ⟨na, hN⟩ : ∃ na : Nat, atN W.Nodes q = (na : Int) := ⟨(atN W.Nodes q).toNat, by omega⟩
 clear g0
 replace hN := Asd.mk hN
 cases hr : runOf l q with
 | none =>
  have e1 := Asd.mk (show answerOf W l q = none by rw [ans_in q1, hr]; rfl)
  have hM := Asd.mk (atR_none hr)
  go_enter Tryz.func90, Tryz.ntmps90
  go_wp2_with fail
  refine (l2At_calls W q _ (Web.rmk W (hw.out.below HB.out))).mono ?_
  rw [hN.out]
  rintro e' w1 ⟨rfl, hb⟩
  obtain ⟨hcx, hfx⟩ := bcell hb
  have HW := Asd.mk (below_st HB.out hb)
  have x0 := cell_below HW.out c0
  have x1 := cell_below HW.out c1
  have hz1 := hb.size
  clear hb
  go_wp2_with fail
  refine (find3_calls l q kb A B W.Nodes.length c d _ x0 x1 (h.out.below HW.out) hl).mono ?_
  rw [hM.out]
  rintro e' w2 ⟨rfl, rfl⟩
  go_wp2
  refine bodyPost_ret (v := .tuple #[.agg #[.bool false, .string ⟨#[]⟩], .bool false]) (by simp [results, Tryz.results90, go_sem, *]) rfl ?_
  rw [e1.out]
  exact ⟨rfl, by repeat first|with_reducible (first|exact Below.refl _ _|exact HW.out|refine below_al ?_ _|refine below_dr ?_ _|refine below_d1 ?_)|(with_reducible refine Below.setCell ?_ ?_ _;rotate_left;next => first|(simp;done)|(simp;omega)|omega)⟩
 | some r =>
  obtain ⟨i, hi, hM, hri⟩ := atR_some hr
  replace hM := Asd.mk hM
  cases ho : r.Over with
  | false =>
   have e1 := Asd.mk (show answerOf W l q = none by rw [ans_in q1, hr]; simp [runAns, ho])
   go_enter Tryz.func90, Tryz.ntmps90
   go_wp2_with fail
   refine (l2At_calls W q _ (Web.rmk W (hw.out.below HB.out))).mono ?_
   rw [hN.out]
   rintro e' w1 ⟨rfl, hb⟩
   obtain ⟨hcx, hfx⟩ := bcell hb
   have HW := Asd.mk (below_st HB.out hb)
   have x0 := cell_below HW.out c0
   have x1 := cell_below HW.out c1
   have hz1 := hb.size
   clear hb
   go_wp2_with fail
   refine (find3_calls l q kb A B W.Nodes.length c d _ x0 x1 (h.out.below HW.out) hl).mono ?_
   rw [hM.out]
   rintro e' w2 ⟨rfl, rfl⟩
   obtain ⟨a, c', v6, he, k0, k1, _⟩ := Run.elem (h.out.below HW.out) hi
   cases he
   rw [hri, ho] at k1
   have hz : (i : Int) < (l.length : Int) := by omega
   clear k0
   go_wp2
   refine bodyPost_ret (v := .tuple #[.agg #[.bool false, .string ⟨#[]⟩], .bool false]) (by simp [results, Tryz.results90, go_sem, *]) rfl ?_
   rw [e1.out]
   exact ⟨rfl, by repeat first|with_reducible (first|exact Below.refl _ _|exact HW.out|refine below_al ?_ _|refine below_dr ?_ _|refine below_d1 ?_)|(with_reducible refine Below.setCell ?_ ?_ _;rotate_left;next => first|(simp;done)|(simp;omega)|omega)⟩
  | true =>
   have e1 := Asd.mk (show answerOf W l q = some ⟨r.Fail, r.Text⟩ by rw [ans_in q1, hr]; simp [runAns, ho])
   go_enter Tryz.func90, Tryz.ntmps90
   go_wp2_with fail
   refine (l2At_calls W q _ (Web.rmk W (hw.out.below HB.out))).mono ?_
   rw [hN.out]
   rintro e' w1 ⟨rfl, hb⟩
   obtain ⟨hcx, hfx⟩ := bcell hb
   have HW := Asd.mk (below_st HB.out hb)
   have x0 := cell_below HW.out c0
   have x1 := cell_below HW.out c1
   have hz1 := hb.size
   clear hb
   go_wp2_with fail
   refine (find3_calls l q kb A B W.Nodes.length c d _ x0 x1 (h.out.below HW.out) hl).mono ?_
   rw [hM.out]
   rintro e' w2 ⟨rfl, rfl⟩
   obtain ⟨a, c', v6, he, k0, k1, k2, k3, _⟩ := Run.elem (h.out.below HW.out) hi
   cases he
   rw [hri, ho] at k1
   rw [hri] at k2 k3
   have hz : (i : Int) < (l.length : Int) := by omega
   clear k0
   go_wp2
   go_region
   go_wp2
   refine bodyPost_ret (v := .tuple #[.agg #[.bool r.Fail, .string r.Text], .bool true]) (by simp [results, Tryz.results90, go_sem, *]) rfl ?_
   rw [e1.out]
   exact ⟨rfl, by repeat first|with_reducible (first|exact Below.refl _ _|exact HW.out|refine below_al ?_ _|refine below_dr ?_ _|refine below_d1 ?_)|(with_reducible refine Below.setCell ?_ ?_ _;rotate_left;next => first|(simp;done)|(simp;omega)|omega)⟩
end Go.Proofs.YtkpkfihaihoaeaaGreatDoor.M
end
section
set_option linter.unusedVariables false
set_option linter.unusedSimpArgs false
namespace Go.Proofs.YtkpkfihaihoaeaaGreatDoor.M
open Go.RowKit
theorem sum_le {α : Type} {f g : α → Nat} : ∀ {l : List α}, (∀ x ∈ l, f x ≤ g x) → (l.map f).sum ≤ (l.map g).sum
 | [], _ => Nat.le_refl _
 | x :: l, h => by
  have h1 := h x (List.mem_cons_self ..)
  have h2 := sum_le (l := l) (fun y hy => h y (List.mem_cons_of_mem _ hy))
  simp only [List.map_cons, List.sum_cons]; omega
theorem sum_lt {α : Type} {f g : α → Nat} : ∀ {l : List α}, (∀ x ∈ l, f x ≤ g x) → (∃ x ∈ l, f x < g x) → (l.map f).sum < (l.map g).sum
 | [], _, h => by obtain ⟨x, hx, _⟩ := h; cases hx
 | x :: l, h, h' => by
  have h1 := h x (List.mem_cons_self ..)
  have h2 := sum_le (l := l) (fun y hy => h y (List.mem_cons_of_mem _ hy))
  simp only [List.map_cons, List.sum_cons]
  obtain ⟨y, hy, hlt⟩ := h'
  rcases List.mem_cons.1 hy with rfl | hy
  ·omega
  ·have := sum_lt (l := l) (fun y hy => h y (List.mem_cons_of_mem _ hy)) ⟨y, hy, hlt⟩
   omega
/-- how much is left to do -/
def wt (o : Option Run) : Nat := match o with
 | none => 45
 | some r => if r.Over then 0 else 1 + 2 * (20 - r.Visits.toNat)
def mu (W : Web) (R : List Run) : Nat := (W.Nodes.map fun n => wt (runOf R n.Name)).sum
theorem wt_new (q : ByteArray) : wt (some (newRun q)) = 41 := by simp [wt, newRun]
theorem next_wt {W : Web} {R : List Run} {r : Run} (hr : RunOk W r) (h : isReady W R r = true) : wt (some (nextOf W R r).1) < wt (some r) := by
 have ho := ready_over h
 have h0 := hr.vis0
 have h1 := hr.vis1
 have e1 : wt (some r) = 1 + 2 * (20 - r.Visits.toNat) := by simp [wt, ho]
 have key : ∀ (a : Action) (x : Run), x.Visits = r.Visits → r.Visits < 20 → wt (some (arrive a x).1) < 1 + 2 * (20 - r.Visits.toNat) := by
  intro a x hx hlt
  unfold arrive
  cases hE : (stepIn a x.At).End with
  | true => simp [wt]; omega
  | false =>
   simp only [Bool.false_eq_true, if_false, wt]
   split
   ·omega
   ·simp only [hx]; omega
 rw [e1]
 unfold nextOf nextRun
 split
 ·simp [wt]; omega
 ·split
  ·exact key _ _ rfl (by omega)
  ·unfold goRun
   split
   ·simp [wt]; omega
   ·exact key _ _ rfl (by omega)
theorem mu_do {W : Web} {R : List Run} {r : Run} (hR : Inv W R) (hr : r ∈ R) (h : isReady W R r = true) : mu W (doRun W R r) < mu W R := by
 have hro := runOf_mem hR.asc hr
 refine sum_lt (fun n hn => ?_) ?_
 ·rw [runOf_doRun]
  cases hx : runOf R n.Name with
  | some x =>
   simp only
   by_cases e : n.Name = r.Name
   ·rw [if_pos e]
    rw [e, hro] at hx
    cases hx
    exact Nat.le_of_lt (next_wt (hR.ok r hr) h)
   ·rw [if_neg e]; exact Nat.le_refl _
  | none =>
   simp only
   split
   ·rw [wt_new]; simp [wt]
   ·exact Nat.le_refl _
 ·obtain ⟨n, hn, e⟩ := (hasN_iff W.Nodes r.Name).1 (hR.ok r hr).web
  refine ⟨n, hn, ?_⟩
  rw [runOf_doRun, e, hro]
  simp only [if_true]
  exact next_wt (hR.ok r hr) h
/-- what has been answered stays -/
theorem ans_mono {W : Web} {R : List Run} {r : Run} (hR : Inv W R) (hr : r ∈ R) (h : isReady W R r = true) {q : ByteArray} {a : Answer} (ha : answerOf W R q = some a) : answerOf W (doRun W R r) q = some a := by
 unfold answerOf at ha ⊢
 split
 ·rename_i hq
  rw [if_pos hq] at ha
  rw [runOf_doRun]
  cases hx : runOf R q with
  | none => rw [hx] at ha; cases ha
  | some x =>
   rw [hx] at ha
   simp only
   by_cases e : q = r.Name
   ·exfalso
    rw [e, runOf_mem hR.asc hr] at hx
    cases hx
    simp [runAns, ready_over h] at ha
   ·rw [if_neg e]; exact ha
 ·rename_i hq
  rw [if_neg hq] at ha
  exact ha
theorem answers_mono {W : Web} {R S : List Run} (h : ∀ q a, answerOf W R q = some a → answerOf W S q = some a) : ∀ {qs : List ByteArray} {xs : List Answer}, answersOf W R qs = some xs → answersOf W S qs = some xs
 | [], xs, h => h
 | q :: qs, xs, hh => by
  unfold answersOf at hh ⊢
  cases h1 : answerOf W R q with
  | none => rw [h1] at hh; cases hh
  | some x =>
   rw [h1] at hh
   rw [h q x h1]
   cases h2 : answersOf W R qs with
   | none => rw [h2] at hh; cases hh
   | some ys => rw [h2] at hh; rw [answers_mono h h2]; exact hh
theorem mem_doRun {W : Web} {R : List Run} {r x : Run} (hR : Inv W R) (hx : x ∈ R) (hne : x.Name ≠ r.Name) : runOf (doRun W R r) x.Name = some x := by
 rw [runOf_doRun, runOf_mem hR.asc hx]
 simp [hne]
theorem ready_mono' {W : Web} {R S : List Run} (h : ∀ q a, answerOf W R q = some a → answerOf W S q = some a) {x : Run} (hx : isReady W R x = true) : isReady W S x = true := by
 simp only [isReady, Bool.and_eq_true, Bool.or_eq_true] at hx ⊢
 refine ⟨hx.1, hx.2.imp id fun hs => ?_⟩
 cases hh : answersOf W R (stepOf W x).Asks with
 | none => rw [hh] at hs; cases hs
 | some xs => rw [answers_mono h hh]; rfl
theorem ready_stays {W : Web} {R : List Run} {r x : Run} (hR : Inv W R) (hr : r ∈ R) (h : isReady W R r = true) (hx : isReady W R x = true) : isReady W (doRun W R r) x = true :=
 ready_mono' (fun _ _ => ans_mono hR hr h) hx
/-- who can be reached from the roots -/
inductive Reach (W : Web) (roots : List ByteArray) : List Run → Prop where
 | start : Reach W roots (begin_ W roots)
 | step {R : List Run} {r : Run} : Reach W roots R → r ∈ R → isReady W R r = true → Reach W roots (doRun W R r)
theorem Reach.inv {W : Web} {roots : List ByteArray} (hw : checkWeb W = 0) {R : List Run} (h : Reach W roots R) : Inv W R := by
 induction h with
 | start => exact begin_inv hw roots
 | step _ hr hd ih => exact doRun_inv hw ih hr hd
/-- one sweep over those that are ready -/
def swStep (W : Web) (c : Run → Bool) (st : List Run × Bool) (q : ByteArray) : List Run × Bool := match runOf st.1 q with
 | none => st
 | some r => if c r then (doRun W st.1 r, true) else st
def swTo (W : Web) (c : Run → Bool) (R : List Run) (l : List ByteArray) : List Run × Bool := l.foldl (swStep W c) (R, false)
def sweep (W : Web) (c : Run → Bool) (R : List Run) : List Run × Bool := swTo W c R (readyL W R)
def sweeps (W : Web) (c : Run → Bool) : Nat → List Run → List Run
 | 0, R => R
 | n + 1, R => if (sweep W c R).2 then sweeps W c n (sweep W c R).1 else R
def loadR (W : Web) (c : Run → Bool) (R : List Run) : List Run := sweeps W c (mu W R) R
/-- all of l are ready, each once -/
def RdyL (W : Web) (R : List Run) (l : List ByteArray) : Prop := l.Nodup ∧ ∀ q ∈ l, ∃ r, runOf R q = some r ∧ isReady W R r = true
theorem readyL_rdy {W : Web} {R : List Run} (hR : AscR R) : RdyL W R (readyL W R) := by
 refine ⟨?_, fun q hq => ?_⟩
 ·unfold readyL readyR
  exact List.Nodup.sublist (List.Sublist.map _ List.filter_sublist) hR.nodup
 ·unfold readyL readyR at hq
  obtain ⟨r, hr, rfl⟩ := List.mem_map.1 hq
  obtain ⟨h1, h2⟩ := List.mem_filter.1 hr
  exact ⟨r, runOf_mem hR h1, h2⟩
theorem RdyL.step {W : Web} {R : List Run} {q : ByteArray} {l : List ByteArray} {r : Run} (hR : Inv W R) (h : RdyL W R (q :: l)) (hr : runOf R q = some r) : RdyL W (doRun W R r) l := by
 obtain ⟨hn, hall⟩ := h
 obtain ⟨h1, h2⟩ := List.nodup_cons.1 hn
 obtain ⟨r', hr', hrd⟩ := hall q (List.mem_cons_self ..)
 rw [hr] at hr'
 cases hr'
 obtain ⟨hm, hq⟩ := runOf_some hr
 refine ⟨h2, fun p hp => ?_⟩
 obtain ⟨x, hx, hxr⟩ := hall p (List.mem_cons_of_mem _ hp)
 obtain ⟨hxm, hxn⟩ := runOf_some hx
 have hne : x.Name ≠ r.Name := by rw [hxn, hq]; rintro rfl; exact h1 hp
 refine ⟨x, ?_, ready_stays hR hm hrd hxr⟩
 rw [← hxn]
 exact mem_doRun hR hxm hne
theorem RdyL.tail {W : Web} {R : List Run} {q : ByteArray} {l : List ByteArray} (h : RdyL W R (q :: l)) : RdyL W R l :=
 ⟨(List.nodup_cons.1 h.1).2, fun p hp => h.2 p (List.mem_cons_of_mem _ hp)⟩
/-- the state of a sweep -/
structure SwOk (W : Web) (roots : List ByteArray) (R0 : List Run) (st : List Run × Bool) (rest : List ByteArray) : Prop where
 reach : Reach W roots st.1
 rdy : RdyL W st.1 rest
 mu : mu W st.1 ≤ mu W R0
 moved : st.2 = true → M.mu W st.1 < M.mu W R0
 still : st.2 = false → st.1 = R0
theorem SwOk.step {W : Web} {roots : List ByteArray} {R0 : List Run} {st : List Run × Bool} {q : ByteArray} {l : List ByteArray} {c : Run → Bool} (hw : checkWeb W = 0) (h : SwOk W roots R0 st (q :: l)) : SwOk W roots R0 (swStep W c st q) l := by
 obtain ⟨r, hr, hd⟩ := h.rdy.2 q (List.mem_cons_self ..)
 have hR := h.reach.inv hw
 obtain ⟨hm, hq⟩ := runOf_some hr
 unfold swStep
 rw [hr]
 simp only
 split
 ·have h1 := mu_do hR hm hd
  have h2 := h.mu
  exact ⟨.step h.reach hm hd, h.rdy.step hR hr, by simp only; omega, fun _ => by simp only; omega, (fun h => by cases h)⟩
 ·exact ⟨h.reach, h.rdy.tail, h.mu, h.moved, h.still⟩
theorem SwOk.all {W : Web} {roots : List ByteArray} {R0 : List Run} {c : Run → Bool} (hw : checkWeb W = 0) : ∀ {l : List ByteArray} {st : List Run × Bool}, SwOk W roots R0 st l → SwOk W roots R0 (l.foldl (swStep W c) st) []
 | [], _, h => h
 | q :: l, st, h => SwOk.all (l := l) hw (h.step hw)
theorem SwOk.start {W : Web} {roots : List ByteArray} {R : List Run} (hw : checkWeb W = 0) (h : Reach W roots R) : SwOk W roots R (R, false) (readyL W R) :=
 ⟨h, readyL_rdy (h.inv hw).asc, Nat.le_refl _, (fun h => by cases h), fun _ => rfl⟩
theorem sweep_ok {W : Web} {roots : List ByteArray} {R : List Run} {c : Run → Bool} (hw : checkWeb W = 0) (h : Reach W roots R) : SwOk W roots R (sweep W c R) [] := (SwOk.start hw h).all hw
theorem sweeps_more {W : Web} {roots : List ByteArray} {c : Run → Bool} (hw : checkWeb W = 0) : ∀ (n m : Nat) {R : List Run}, Reach W roots R → mu W R ≤ n → mu W R ≤ m → sweeps W c n R = sweeps W c m R
 | 0, 0, _, _, _, _ => rfl
 | 0, m + 1, R, h, h1, h2 => by
  have hs := sweep_ok (c := c) hw h
  unfold sweeps
  cases hm : (sweep W c R).2 with
  | true => have := hs.moved hm; omega
  | false => simp
 | n + 1, 0, R, h, h1, h2 => by
  have hs := sweep_ok (c := c) hw h
  unfold sweeps
  cases hm : (sweep W c R).2 with
  | true => have := hs.moved hm; omega
  | false => simp
 | n + 1, m + 1, R, h, h1, h2 => by
  have hs := sweep_ok (c := c) hw h
  unfold sweeps
  cases hm : (sweep W c R).2 with
  | true =>
   simp only [if_true]
   have := hs.moved hm
   exact sweeps_more hw n m hs.reach (by omega) (by omega)
  | false => simp
theorem loadR_go {W : Web} {roots : List ByteArray} {c : Run → Bool} {R : List Run} (hw : checkWeb W = 0) (h : Reach W roots R) (hm : (sweep W c R).2 = true) : loadR W c R = loadR W c (sweep W c R).1 := by
 have hs := sweep_ok (c := c) hw h
 have h1 := hs.moved hm
 unfold loadR
 rw [sweeps_more hw _ (mu W R + 1) h (Nat.le_refl _) (by omega)]
 show (if (sweep W c R).2 then sweeps W c (mu W R) (sweep W c R).1 else R) = _
 rw [hm, if_pos rfl]
 exact sweeps_more hw _ _ hs.reach (by omega) (Nat.le_refl _)
theorem loadR_end {W : Web} {roots : List ByteArray} {c : Run → Bool} {R : List Run} (hw : checkWeb W = 0) (h : Reach W roots R) (hm : (sweep W c R).2 = false) : loadR W c R = R := by
 unfold loadR
 rw [sweeps_more hw _ (mu W R + 1) h (Nat.le_refl _) (by omega)]
 show (if (sweep W c R).2 then sweeps W c (mu W R) (sweep W c R).1 else R) = _
 rw [hm]; rfl
theorem sweeps_reach {W : Web} {roots : List ByteArray} {c : Run → Bool} (hw : checkWeb W = 0) : ∀ (n : Nat) {R : List Run}, Reach W roots R → Reach W roots (sweeps W c n R)
 | 0, _, h => h
 | n + 1, R, h => by
  unfold sweeps
  split
  ·exact sweeps_reach hw n (sweep_ok (c := c) hw h).reach
  ·exact h
theorem loadR_reach {W : Web} {roots : List ByteArray} {c : Run → Bool} {R : List Run} (hw : checkWeb W = 0) (h : Reach W roots R) : Reach W roots (loadR W c R) := sweeps_reach hw _ h
/-- two conditions that agree on what can come up -/
theorem swStep_congr {W : Web} {c d : Run → Bool} {st : List Run × Bool} {q : ByteArray} (h : ∀ r ∈ st.1, c r = d r) : swStep W c st q = swStep W d st q := by
 unfold swStep
 cases hr : runOf st.1 q with
 | none => rfl
 | some r => simp only; rw [h r (runOf_some hr).1]
theorem sweep_congr {W : Web} {roots : List ByteArray} {c d : Run → Bool} (hw : checkWeb W = 0) (hcd : ∀ r, RunOk W r → c r = d r) {R0 : List Run} : ∀ {l : List ByteArray} {st : List Run × Bool}, SwOk W roots R0 st l → l.foldl (swStep W c) st = l.foldl (swStep W d) st
 | [], _, _ => rfl
 | q :: l, st, h => by
  rw [List.foldl_cons, List.foldl_cons, ← swStep_congr (c := c) (fun r hr => hcd r ((h.reach.inv hw).ok r hr))]
  exact sweep_congr hw hcd (h.step hw)
theorem sweeps_congr {W : Web} {roots : List ByteArray} {c d : Run → Bool} (hw : checkWeb W = 0) (hcd : ∀ r, RunOk W r → c r = d r) : ∀ (n : Nat) {R : List Run}, Reach W roots R → sweeps W c n R = sweeps W d n R
 | 0, _, _ => rfl
 | n + 1, R, h => by
  have e : sweep W c R = sweep W d R := sweep_congr hw hcd (SwOk.start hw h)
  unfold sweeps
  rw [← e]
  split
  ·exact sweeps_congr hw hcd n (sweep_ok (c := c) hw h).reach
  ·rfl
/-- where a state's runs lead -/
def goalOf (S : List Run) (q : ByteArray) : Run := (S.reverse.find? (rIs q)).getD zRun
def goCond (S : List Run) (r : Run) : Bool := (decide (r.Visits < (goalOf S r.Name).Visits) && decide (r.Visits < 20)) || (r.Visits == 20 && (goalOf S r.Name).Visits == 20 && (goalOf S r.Name).Over)
def goCondS (S : List Run) (r : Run) : Bool := match runOf S r.Name with
 | none => false
 | some g => !(decide (r.Visits > g.Visits) || (r.Visits == g.Visits && (!g.Over || decide (r.Visits < 20))))
def comeTo (W : Web) (s : State) : List Run := loadR W (goCond s.Runs) (begin_ W s.Roots)
def comeToS (W : Web) (s : State) : List Run := loadR W (goCondS s.Runs) (begin_ W s.Roots)
def validS (W : Web) (s : State) : Bool := decide (checkWeb W = 0) && rootsOk s.Roots && decide (comeTo W s = s.Runs)
theorem comeTo_reach {W : Web} {s : State} (hw : checkWeb W = 0) : Reach W s.Roots (comeTo W s) := loadR_reach hw .start
theorem comeToS_reach {W : Web} {s : State} (hw : checkWeb W = 0) : Reach W s.Roots (comeToS W s) := loadR_reach hw .start
theorem goalOf_asc : ∀ {S : List Run} {q : ByteArray}, AscR S → goalOf S q = (runOf S q).getD zRun
 | [], q, _ => rfl
 | x :: S, q, h => by
  obtain ⟨h1, h2⟩ := AscR_cons.1 h
  have ih := goalOf_asc (q := q) h2
  unfold goalOf at ih ⊢
  rw [List.reverse_cons, List.find?_append, runOf_cons]
  by_cases e : x.Name = q
  ·rw [if_pos e]
   have : S.reverse.find? (rIs q) = none := by
    rw [List.find?_eq_none]
    intro y hy
    rw [List.mem_reverse] at hy
    rw [rIs_ne (fun e2 => by have := h1 y hy; rw [e, e2, ltS_irr] at this; cases this)]; simp
   rw [this]
   simp [(rIs_iff q x).2 e]
  ·rw [if_neg e]
   have : [x].find? (rIs q) = none := by simp [rIs_ne e]
   rw [this, Option.or_none]
   exact ih
theorem goCond_eq {W : Web} {S : List Run} (hS : AscR S) (hv : ∀ r ∈ S, r.Visits ≤ 20) {r : Run} (hr : RunOk W r) : goCond S r = goCondS S r := by
 have h0 := hr.vis0
 have h1 := hr.vis1
 unfold goCond goCondS
 rw [goalOf_asc hS]
 cases hg : runOf S r.Name with
 | none =>
  show ((decide (r.Visits < 0) && decide (r.Visits < 20)) || (r.Visits == 20 && (0 : Int) == 20 && false)) = false
  rw [decide_eq_false (show ¬r.Visits < 0 by omega)]
  simp
 | some g =>
  have hgv := hv g (runOf_some hg).1
  simp only [Option.getD_some]
  rw [Bool.eq_iff_iff]
  cases g.Over <;> simp <;> omega
theorem comeTo_eq {W : Web} {s : State} (hw : checkWeb W = 0) : comeTo W s = s.Runs ↔ comeToS W s = s.Runs := by
 by_cases h : AscR s.Runs ∧ ∀ r ∈ s.Runs, r.Visits ≤ 20
 ·have : comeTo W s = comeToS W s := sweeps_congr hw (fun r hr => goCond_eq h.1 h.2 hr) _ .start
  rw [this]
 ·constructor
  ·intro e
   have := (comeTo_reach (s := s) hw).inv hw
   rw [e] at this
   exact absurd ⟨this.asc, fun r hr => (this.ok r hr).vis1⟩ h
  ·intro e
   have := (comeToS_reach (s := s) hw).inv hw
   rw [e] at this
   exact absurd ⟨this.asc, fun r hr => (this.ok r hr).vis1⟩ h
theorem validS_spec (W : Web) (s : State) : validS W s = (decide (checkWeb W = 0) && rootsOk s.Roots && decide (comeToS W s = s.Runs)) := by
 unfold validS
 by_cases hw : checkWeb W = 0
 ·rw [decide_eq_decide.2 (comeTo_eq hw)]
 ·simp [hw]
theorem validS_reach {W : Web} {s : State} (h : validS W s = true) : checkWeb W = 0 ∧ rootsOk s.Roots = true ∧ Reach W s.Roots s.Runs := by
 simp only [validS, Bool.and_eq_true, decide_eq_true_eq] at h
 obtain ⟨⟨h1, h2⟩, h3⟩ := h
 refine ⟨h1, h2, ?_⟩
 have := comeTo_reach (s := s) h1
 rwa [h3] at this
/-- no more runs than nodes -/
theorem asc_sub_len : ∀ {a b : List ByteArray}, Asc a → Asc b → (∀ x ∈ a, x ∈ b) → a.length ≤ b.length
 | [], _, _, _, _ => Nat.zero_le _
 | x :: a, [], _, _, h => by have := h x (List.mem_cons_self ..); cases this
 | x :: a, y :: b, ha, hb, h => by
  obtain ⟨h1, h2⟩ := List.pairwise_cons.1 ha
  obtain ⟨k1, k2⟩ := List.pairwise_cons.1 hb
  rw [List.length_cons, List.length_cons]
  refine Nat.succ_le_succ (asc_sub_len h2 k2 fun z hz => ?_)
  rcases List.mem_cons.1 (h z (List.mem_cons_of_mem _ hz)) with rfl | hz'
  ·exfalso
   have hx := h1 z hz
   rcases List.mem_cons.1 (h x (List.mem_cons_self ..)) with rfl | hxb
   ·rw [ltS_irr] at hx; cases hx
   ·rw [ltS_asymm (k1 x hxb)] at hx; cases hx
  ·exact hz'
theorem Inv.length {W : Web} {R : List Run} (hw : checkWeb W = 0) (h : Inv W R) : R.length ≤ W.Nodes.length := by
 obtain ⟨_, _, h3, _⟩ := checkWeb_ok hw
 have := asc_sub_len h.asc (ascB_asc h3) (fun x hx => by
  obtain ⟨r, hr, rfl⟩ := List.mem_map.1 hx
  obtain ⟨n, hn, e⟩ := (hasN_iff _ _).1 (h.ok r hr).web
  exact List.mem_map.2 ⟨n, hn, e⟩)
 simpa using this
end Go.Proofs.YtkpkfihaihoaeaaGreatDoor.M
end
section
set_option linter.unusedVariables false
set_option linter.unusedSimpArgs false
namespace Go.Proofs.YtkpkfihaihoaeaaGreatDoor.M
open Go.RowKit
/-- the run at the step that its unit comes to -/
def midRun (a : Action) (r : Run) (xs : List Answer) : Run := if r.Visits = 0 then r else { r with Texts := r.Texts ++ goodT xs, At := (followS (stepIn a r.At) xs).At }
def onward (a : Action) (r : Run) (xs : List Answer) : Prop := r.Visits = 0 ∨ (followS (stepIn a r.At) xs).Over = false
theorem nextRun_mid {a : Action} {r : Run} {xs : List Answer} (h1 : r.Visits ≠ 20) (h2 : onward a r xs) : nextRun a r xs = arrive a (midRun a r xs) := by
 unfold nextRun midRun
 rw [if_neg h1]
 by_cases h0 : r.Visits = 0
 ·rw [if_pos h0, if_pos h0]
 ·rw [if_neg h0, if_neg h0]
  rcases h2 with h2 | h2
  ·exact absurd h2 h0
  ·unfold goRun; rw [h2]; rfl
theorem nextRun_over {a : Action} {r : Run} {xs : List Answer} (h1 : r.Visits ≠ 20) (h0 : r.Visits ≠ 0) (h2 : (followS (stepIn a r.At) xs).Over = true) : nextRun a r xs = ({ r with Visits := r.Visits + 1, Over := true, Fail := true, Text := (followS (stepIn a r.At) xs).Text }, []) := by
 unfold nextRun
 rw [if_neg h1, if_neg h0]
 unfold goRun; rw [h2]; rfl
theorem nextRun_spent {a : Action} {r : Run} {xs : List Answer} (h1 : r.Visits = 20) : nextRun a r xs = ({ r with Over := true, Fail := true, Text := spentT }, []) := by
 unfold nextRun
 rw [if_pos h1]
structure MidK (W : Web) (r r1 : Run) (n : Nat) : Prop where
 at_ : r1.At = (n : Int)
 lt : n < (actOf W r.Name).Steps.length
 step : stepIn (actOf W r.Name) r1.At = (actOf W r.Name).Steps[n]
 texts : ∀ t ∈ r1.Texts, t.size ≤ 200
 many : r1.Texts.length ≤ 100
 vis : r1.Visits = r.Visits
 vis0 : 0 ≤ r.Visits
 vis1 : r.Visits ≤ 19
 name : r1.Name = r.Name
theorem midK {W : Web} {R : List Run} {r : Run} (hw : checkWeb W = 0) (hR : ∀ r ∈ R, RunOk W r) (hr : RunOk W r) (h : isReady W R r = true) (hv : r.Visits ≠ 20) (ho : onward (actOf W r.Name) r (ansFor W R r)) : ∃ n, MidK W r (midRun (actOf W r.Name) r (ansFor W R r)) n := by
 have h0 := hr.vis0
 have h1 := hr.vis1
 have hm := hr.many
 unfold midRun
 by_cases hz : r.Visits = 0
 ·rw [if_pos hz]
  obtain ⟨hl, he⟩ := stepIn_eq hr.at1 hr.at0
  have ha := hr.at0
  exact ⟨r.At.toNat, by omega, hl, he, hr.texts, by omega, rfl, h0, by omega, rfl⟩
 ·rw [if_neg hz]
  have hO : (followS (stepIn (actOf W r.Name) r.At) (ansFor W R r)).Over = false := ho.resolve_left hz
  have ha := ready_ans h hz
  have hmid := hr.mid (ready_over h) (by omega)
  obtain ⟨hi, es⟩ := stepIn_eq hr.at1 hr.at0
  have hs : stepIn (actOf W r.Name) r.At ∈ (actOf W r.Name).Steps := by rw [es]; exact List.getElem_mem hi
  have hl := answersOf_len ha
  obtain ⟨f1, f2⟩ := follow_ok (act_ok hw hr.web) hs hmid hl
  obtain ⟨a1, a2, a3⟩ := asks_ok (step_ok (act_ok hw hr.web) hs)
  obtain ⟨g0, g1⟩ := f2 hO
  have hx := answers_text hR a3 ha
  obtain ⟨hl2, he2⟩ := stepIn_eq g1 g0
  refine ⟨(followS (stepIn (actOf W r.Name) r.At) (ansFor W R r)).At.toNat, by simp only; omega, hl2, he2, ?_, ?_, rfl, h0, by omega, rfl⟩
  ·intro t ht
   rcases List.mem_append.1 ht with ht | ht
   ·exact hr.texts t ht
   ·exact goodT_text hx t ht
  ·have := goodT_len (ansFor W R r)
   simp only [List.length_append]
   change (ansFor W R r).length = (stepIn (actOf W r.Name) r.At).Asks.length at hl
   omega
/-- the texts on their way -/
def gdTo (xs : List Answer) (k : Nat) : List ByteArray := goodT (xs.take k)
theorem gdTo_zero (xs : List Answer) : gdTo xs 0 = [] := rfl
theorem gdTo_yes {xs : List Answer} {k : Nat} (hk : k < xs.length) (h : xs[k].Fail = false) : gdTo xs (k + 1) = gdTo xs k ++ [xs[k].Text] := by
 unfold gdTo goodT; rw [List.take_succ_eq_append_getElem hk, List.filter_append, List.map_append]; simp [h]
theorem gdTo_no {xs : List Answer} {k : Nat} (hk : k < xs.length) (h : xs[k].Fail = true) : gdTo xs (k + 1) = gdTo xs k := by
 unfold gdTo goodT; rw [List.take_succ_eq_append_getElem hk, List.filter_append, List.map_append]; simp [h]
theorem gdTo_end (xs : List Answer) : gdTo xs xs.length = goodT xs := by unfold gdTo; rw [List.take_length]
theorem gdTo_len (xs : List Answer) (k : Nat) : (gdTo xs k).length ≤ k := by
 refine Nat.le_trans (goodT_len _) ?_
 rw [List.length_take]; omega
/-- wanted name by name -/
def wtTo (W : Web) (R : List Run) (qs : List ByteArray) (k : Nat) : List Run := wants W R (qs.take k)
theorem wtTo_zero (W : Web) (R : List Run) (qs : List ByteArray) : wtTo W R qs 0 = R := rfl
theorem wtTo_succ {W : Web} {R : List Run} {qs : List ByteArray} {k : Nat} (h : k < qs.length) : wtTo W R qs (k + 1) = want W (wtTo W R qs k) qs[k] := by
 unfold wtTo wants; rw [List.take_succ_eq_append_getElem h, List.foldl_append]; rfl
theorem wtTo_end (W : Web) (R : List Run) (qs : List ByteArray) : wtTo W R qs qs.length = wants W R qs := by unfold wtTo; rw [List.take_length]
end Go.Proofs.YtkpkfihaihoaeaaGreatDoor.M
end
section
set_option linter.unusedVariables false
set_option linter.unusedSimpArgs false
namespace Go.Proofs.YtkpkfihaihoaeaaGreatDoor.M
open Go.RowKit
/-- what the walk needs to know of a run's step -/
structure StepK (W : Web) (r : Run) (n : Nat) : Prop where
 at_ : r.At = (n : Int)
 lt : n < (actOf W r.Name).Steps.length
 step : stepOf W r = (actOf W r.Name).Steps[n]
 asks : (stepOf W r).Asks.length ≤ 5
 names : ∀ q ∈ (stepOf W r).Asks, q.size ≤ 1000000
theorem stepK {W : Web} {r : Run} (hw : checkWeb W = 0) (h : RunOk W r) : ∃ n, StepK W r n := by
 have ha := act_ok hw h.web
 obtain ⟨hl, he⟩ := stepIn_eq h.at1 h.at0
 have hs := step_ok ha (List.getElem_mem hl)
 obtain ⟨a1, _, a3⟩ := asks_ok hs
 have h0 := h.at0
 refine ⟨r.At.toNat, by omega, hl, he, ?_, fun q hq => ?_⟩
 ·unfold stepOf; rw [he]; exact a1
 ·unfold stepOf at hq; rw [he] at hq
  have := nameOk_size (a3 q hq)
  omega
theorem web_asc {W : Web} (hw : checkWeb W = 0) : Asc (W.Nodes.map Node.Name) ∧ W.Nodes.length ≤ 1000000 := by
 obtain ⟨h1, _, h3, _⟩ := checkWeb_ok hw
 exact ⟨ascB_asc h3, by omega⟩
theorem AnsP.out {lo : Nat} {o : Option (List Answer)} {w w' : World} {e : Ending} (h : AnsP lo o w e w') : ∃ v, e = .returned (.tuple #[v, .bool o.isSome]) ∧ Below w.heap.size w w' := by
 cases o with
 | none => exact ⟨_, h.1, h.2⟩
 | some xs => obtain ⟨v, h1, _, h3⟩ := h; exact ⟨v, h1, h3⟩
set_option maxRecDepth 100000 in
theorem field_steps (c : Int) (A : Option Addr) (n d : Nat) (w : World) : (Instr.field 111 (.agg #[.int .i64 c, .slice A n d]) 1).run Tryz.prog w = .ok (.slice A n d) w := by kernel_rfl
set_option maxRecDepth 100000 in
set_option maxHeartbeats 4000000 in
theorem isReady_calls {lo : Nat} {W : Web} {roots : List ByteArray} {R : List Run} {e : Nat} {F : List Nat} {m : Nat} {nv rv : Value} {L : List Ent} {Fr : List Nat} {W0 : World} {tN tS tC : Nat} (x : Ent) (w : World) (hX : EngX lo w W roots R e F m nv rv L Fr W0 tN tS tC) (hx : x ∈ L) (hw : checkWeb W = 0) (hI : RunOk W x.r) :
  Calls Tryz.prog 102 #[.pointer (some ⟨e, 0, none⟩), .pointer (some ⟨x.b, 0, none⟩)] w fun e' w' => e' = .returned (.bool (isReady W R x.r)) ∧ Below w.heap.size w w' := by
 obtain ⟨ha, hn⟩ := web_asc hw
 have hR := (hX.runs x hx).1
 have y0 : w.cell? ⟨x.b, 0, none⟩ = some (.string x.r.Name) := cellOf hR (i := 0) rfl
 have y1 : w.cell? ⟨x.b, 1, none⟩ = some (.bool x.r.Over) := cellOf hR (i := 1) rfl
 have y4 : w.cell? ⟨x.b, 4, none⟩ = some (.int .i64 x.r.At) := cellOf hR (i := 4) rfl
 have y5 : w.cell? ⟨x.b, 5, none⟩ = some (.int .i64 x.r.Visits) := cellOf hR (i := 5) rfl
 clear hR
 replace hX := Asd.mk hX
 replace ha := Asd.mk ha
 cases hO : x.r.Over with
 | true =>
  rw [hO] at y1
  have e1 := Asd.mk (show isReady W R x.r = false by unfold isReady; rw [hO]; rfl)
  go_enter Tryz.func102, Tryz.ntmps102
  go_wp2
  go_ret
  rw [e1.out]
  exact ⟨rfl, by repeat first|with_reducible (first|exact Below.refl _ _|exact Below.refl _ _|refine below_al ?_ _|refine below_dr ?_ _|refine below_d1 ?_)|(with_reducible refine Below.setCell ?_ ?_ _;rotate_left;next => first|(simp;done)|(simp;omega)|omega)⟩
 | false =>
 rw [hO] at y1
 by_cases hV : x.r.Visits = 0
 ·rw [hV] at y5
  have e1 := Asd.mk (show isReady W R x.r = true by unfold isReady; rw [hO, hV]; rfl)
  go_enter Tryz.func102, Tryz.ntmps102
  go_wp2
  go_ret
  rw [e1.out]
  exact ⟨rfl, by repeat first|with_reducible (first|exact Below.refl _ _|exact Below.refl _ _|refine below_al ?_ _|refine below_dr ?_ _|refine below_d1 ?_)|(with_reducible refine Below.setCell ?_ ?_ _;rotate_left;next => first|(simp;done)|(simp;omega)|omega)⟩
 have hVd : decide (x.r.Visits = 0) = false := by simp [hV]
 obtain ⟨n, hK1⟩ := stepK hw hI
 have y4n := y4
 rw [hK1.at_] at y4n
 clear y4
 have hK1 := Asd.mk hK1
 have hweb := hI.web
 have e1 := Asd.mk (show isReady W R x.r = (answersOf W R (stepOf W x.r).Asks).isSome by unfold isReady; rw [hO]; simp [hV])
 obtain ⟨qn, hqn⟩ : ∃ q, x.r.Name = q := ⟨_, rfl⟩
 obtain ⟨vv, hvv⟩ : ∃ v, x.r.Visits = v := ⟨_, rfl⟩
 rw [hqn] at y0
 rw [hvv] at y5 hVd hV
 have hkeep := Asd.mk (show ∀ Z, Below w.heap.size w Z → (Below w.heap.size w Z ∧ Z.cell? ⟨x.b, 0, none⟩ = some (.string qn) ∧ Z.cell? ⟨x.b, 4, none⟩ = some (.int .i64 (n : Int))) from fun Z hb => ⟨hb, cell_below hb y0, cell_below hb y4n⟩)
 have s_0 : Below w.heap.size w w.drew := (Below.refl _ _).drew
 obtain ⟨a, ha2⟩ : ∃ a, actOf W qn = a := ⟨_, rfl⟩
 have hweb2 := Asd.mk (hqn ▸ hweb)
 have hnl : n < a.Steps.length := by rw [← ha2, ← hqn]; exact hK1.out.lt
 have hst : Asd (stepOf W x.r = a.Steps[n]) := Asd.mk (by rw [hK1.out.step]; subst hqn; subst ha2; rfl)
 replace ha2 := Asd.mk ha2
 go_enter Tryz.func102, Tryz.ntmps102
 go_wp2
 refine wp_region_held_drew (S := fun Z => Below w.heap.size w Z ∧ Z.cell? ⟨x.b, 0, none⟩ = some (.string qn) ∧ Z.cell? ⟨x.b, 4, none⟩ = some (.int .i64 (n : Int))) (by kernel_rfl) (hkeep.out _ s_0) (fun hHeld => ?_)
 (((refine wH 0 (v:=?_) rfl (by kernel_rfl) (fun _ _ _ h => h) (by rfl) ?_ (by assumption) ?_;rotate_left;next => ((intro X hX;(try dsimp only at hX);go_simp);try with_reducible rfl));try simp only [Act.put,List.getElem_toArray,List.getElem_cons_succ,List.getElem_cons_zero,List.setIfInBounds_toArray,List.set_cons_zero,List.set_cons_succ]); ((refine wH 1 (v:=?_) rfl (by kernel_rfl) (fun _ _ _ h => h) (by rfl) ?_ (by assumption) ?_;rotate_left;next => ((intro X hX;(try dsimp only at hX);go_simp);try with_reducible rfl));try simp only [Act.put,List.getElem_toArray,List.getElem_cons_succ,List.getElem_cons_zero,List.setIfInBounds_toArray,List.set_cons_zero,List.set_cons_succ]); ((refine wH 2 (v:=?_) rfl (by kernel_rfl) (fun _ _ _ h => h) (by rfl) ?_ (by assumption) ?_;rotate_left;next => ((intro X hX;(try dsimp only at hX);go_simp);try with_reducible rfl));try simp only [Act.put,List.getElem_toArray,List.getElem_cons_succ,List.getElem_cons_zero,List.setIfInBounds_toArray,List.set_cons_zero,List.set_cons_succ]); ((refine wH 3 (v:=?_) rfl (by kernel_rfl) (fun _ _ _ h => h) (by rfl) ?_ (by assumption) ?_;rotate_left;next => ((intro X hX;(try dsimp only at hX);go_simp);try with_reducible rfl));try simp only [Act.put,List.getElem_toArray,List.getElem_cons_succ,List.getElem_cons_zero,List.setIfInBounds_toArray,List.set_cons_zero,List.set_cons_succ]); ((refine wH 4 (v:=?_) rfl (by kernel_rfl) (fun _ _ _ h => h) (by rfl) ?_ (by assumption) ?_;rotate_left;next => ((intro X hX;(try dsimp only at hX);go_simp);try with_reducible rfl));try simp only [Act.put,List.getElem_toArray,List.getElem_cons_succ,List.getElem_cons_zero,List.setIfInBounds_toArray,List.set_cons_zero,List.set_cons_succ]); ((refine wH 5 (v:=?_) rfl (by kernel_rfl) (fun _ _ _ h => h) (by rfl) ?_ (by assumption) ?_;rotate_left;next => ((intro X hX;(try dsimp only at hX);go_simp);try with_reducible rfl));try simp only [Act.put,List.getElem_toArray,List.getElem_cons_succ,List.getElem_cons_zero,List.setIfInBounds_toArray,List.set_cons_zero,List.set_cons_succ]); ((refine wH 8 (v:=?_) rfl (by kernel_rfl) (fun _ _ _ h => h) (by rfl) ?_ (by assumption) ?_;rotate_left;next => ((intro X hX;(try dsimp only at hX);go_simp);try with_reducible rfl));try simp only [Act.put,List.getElem_toArray,List.getElem_cons_succ,List.getElem_cons_zero,List.setIfInBounds_toArray,List.set_cons_zero,List.set_cons_succ]); ((refine wH 9 (v:=?_) rfl (by kernel_rfl) (fun _ _ _ h => h) (by rfl) ?_ (by assumption) ?_;rotate_left;next => ((intro X hX;(try dsimp only at hX);go_simp);try with_reducible rfl));try simp only [Act.put,List.getElem_toArray,List.getElem_cons_succ,List.getElem_cons_zero,List.setIfInBounds_toArray,List.set_cons_zero,List.set_cons_succ]); ((refine wH 10 (v:=?_) rfl (by kernel_rfl) (fun _ _ _ h => h) (by rfl) ?_ (by assumption) ?_;rotate_left;next => ((intro X hX;(try dsimp only at hX);go_simp);try with_reducible rfl));try simp only [Act.put,List.getElem_toArray,List.getElem_cons_succ,List.getElem_cons_zero,List.setIfInBounds_toArray,List.set_cons_zero,List.set_cons_succ]); ((refine wH 11 (v:=?_) rfl (by kernel_rfl) (fun _ _ _ h => h) (by rfl) ?_ (by assumption) ?_;rotate_left;next => ((intro X hX;(try dsimp only at hX);go_simp);try with_reducible rfl));try simp only [Act.put,List.getElem_toArray,List.getElem_cons_succ,List.getElem_cons_zero,List.setIfInBounds_toArray,List.set_cons_zero,List.set_cons_succ]))
 (refine wpAnyH_ready (rs := [6]) (by kernel_rfl) (by simp) ?_; refine AllReadyH.cons rfl (fun K hK => ?_) AllReadyH.nil)
 go_simp
 refine (action_calls qn _ (hX.out.later (show Below w.heap.size w _ from by repeat first|with_reducible (first|exact Below.refl _ _|exact s_0|refine below_al ?_ _|refine below_dr ?_ _|refine below_d1 ?_)|(with_reducible refine Below.setCell ?_ ?_ _;rotate_left;next => first|(simp;done)|(simp;omega)|omega))) ha.out hn hweb2.out).mono ?_
 rw [ha2.out]
 rintro e' w5 ⟨A, c, rfl, _, hst5, hb⟩
 obtain ⟨s_0, s_1, s_2⟩ := hkeep.out _ (below_st (show Below w.heap.size w _ from by repeat first|with_reducible (first|exact Below.refl _ _|exact s_0|refine below_al ?_ _|refine below_dr ?_ _|refine below_d1 ?_)|(with_reducible refine Below.setCell ?_ ?_ _;rotate_left;next => first|(simp;done)|(simp;omega)|omega)) hb)
 obtain ⟨ad, c', v0, v2, hv, k0, k1, k2, k3, k4, k5, k6, k7, _, _, k8⟩ := Step.elem (hst5.below hb) hnl
 cases hv
 have hfs := field_steps a.Cost (some ad) a.Steps.length c
 replace k8 := Asd.mk k8
 clear hb hst5
 refine hK.out _ _ (hkeep.out _ s_0) (fun hHeld => ?_)
 clear hK K
 (((refine wH 7 (v:=?_) rfl (by kernel_rfl) (fun _ _ _ h => h) (by rfl) ?_ (by assumption) ?_;rotate_left;next => ((intro X hX;(try dsimp only at hX);go_simp);try with_reducible rfl));try simp only [Act.put,List.getElem_toArray,List.getElem_cons_succ,List.getElem_cons_zero,List.setIfInBounds_toArray,List.set_cons_zero,List.set_cons_succ]); ((refine wH 12 (v:=?_) rfl (by kernel_rfl) (fun _ _ _ h => h) (by rfl) ?_ (by assumption) ?_;rotate_left;next => ((intro X hX;(try dsimp only at hX);go_simp);try with_reducible rfl));try simp only [Act.put,List.getElem_toArray,List.getElem_cons_succ,List.getElem_cons_zero,List.setIfInBounds_toArray,List.set_cons_zero,List.set_cons_succ]))
 (refine wpAnyH_ready (rs := [13]) (by kernel_rfl) (by simp) ?_; refine AllReadyH.cons rfl (fun K hK => ?_) AllReadyH.nil)
 go_simp
 refine hK.out _ _ (hkeep.out _ s_0) (fun hHeld => ?_)
 clear hK K
 (refine wpAnyH_ready (rs := [14]) (by kernel_rfl) (by simp) ?_; refine AllReadyH.cons rfl (fun K hK => ?_) AllReadyH.nil)
 go_simp
 refine (answers_calls a.Steps[n] _ (hX.out.later (show Below w.heap.size w _ from by repeat first|with_reducible (first|exact Below.refl _ _|exact s_0|refine below_al ?_ _|refine below_dr ?_ _|refine below_d1 ?_)|(with_reducible refine Below.setCell ?_ ?_ _;rotate_left;next => first|(simp;done)|(simp;omega)|omega))) (k8.out.below (by repeat first|with_reducible (first|exact Below.refl _ _|exact Below.refl _ _|refine below_al ?_ _|refine below_dr ?_ _|refine below_d1 ?_)|(with_reducible refine Below.setCell ?_ ?_ _;rotate_left;next => first|(simp;done)|(simp;omega)|omega))) ha.out hn (by rw [← hst.out]; exact hK1.out.names) (by have := hK1.out.asks; rw [hst.out] at this; omega)).mono ?_
 intro e' w6 hP
 obtain ⟨v, rfl, hb⟩ := hP.out
 obtain ⟨s_0, s_1, s_2⟩ := hkeep.out _ (below_st (show Below w.heap.size w _ from by repeat first|with_reducible (first|exact Below.refl _ _|exact s_0|refine below_al ?_ _|refine below_dr ?_ _|refine below_d1 ?_)|(with_reducible refine Below.setCell ?_ ?_ _;rotate_left;next => first|(simp;done)|(simp;omega)|omega)) hb)
 rw [← hst.out]
 clear hb hP
 refine hK.out _ _ (hkeep.out _ s_0) (fun hHeld => ?_)
 clear hK K
 (((refine wH 15 (v:=?_) rfl (by kernel_rfl) (fun _ _ _ h => h) (by rfl) ?_ (by assumption) ?_;rotate_left;next => ((intro X hX;(try dsimp only at hX);go_simp);try with_reducible rfl));try simp only [Act.put,List.getElem_toArray,List.getElem_cons_succ,List.getElem_cons_zero,List.setIfInBounds_toArray,List.set_cons_zero,List.set_cons_succ]); ((refine wH 16 (v:=?_) rfl (by kernel_rfl) (fun _ _ _ h => h) (by rfl) ?_ (by assumption) ?_;rotate_left;next => ((intro X hX;(try dsimp only at hX);go_simp);try with_reducible rfl));try simp only [Act.put,List.getElem_toArray,List.getElem_cons_succ,List.getElem_cons_zero,List.setIfInBounds_toArray,List.set_cons_zero,List.set_cons_succ]); ((refine wH 17 (v:=?_) rfl (by kernel_rfl) (fun _ _ _ h => h) (by rfl) ?_ (by assumption) ?_;rotate_left;next => ((intro X hX;(try dsimp only at hX);go_simp);try with_reducible rfl));try simp only [Act.put,List.getElem_toArray,List.getElem_cons_succ,List.getElem_cons_zero,List.setIfInBounds_toArray,List.set_cons_zero,List.set_cons_succ]); ((refine wH 18 (v:=?_) rfl (by kernel_rfl) (fun _ _ _ h => h) (by rfl) ?_ (by assumption) ?_;rotate_left;next => ((intro X hX;(try dsimp only at hX);go_simp);try with_reducible rfl));try simp only [Act.put,List.getElem_toArray,List.getElem_cons_succ,List.getElem_cons_zero,List.setIfInBounds_toArray,List.set_cons_zero,List.set_cons_succ]); ((refine wH 19 (v:=?_) rfl (by kernel_rfl) (fun _ _ _ h => h) (by rfl) ?_ (by assumption) ?_;rotate_left;next => ((intro X hX;(try dsimp only at hX);go_simp);try with_reducible rfl));try simp only [Act.put,List.getElem_toArray,List.getElem_cons_succ,List.getElem_cons_zero,List.setIfInBounds_toArray,List.set_cons_zero,List.set_cons_succ]))
 refine wpAnyH_done (by kernel_rfl) ?_ _
 clear hkeep
 go_wp2
 go_ret
 rw [e1.out]
 exact ⟨rfl, by repeat first|with_reducible (first|exact Below.refl _ _|exact s_0|refine below_al ?_ _|refine below_dr ?_ _|refine below_d1 ?_)|(with_reducible refine Below.setCell ?_ ?_ _;rotate_left;next => first|(simp;done)|(simp;omega)|omega)⟩
end Go.Proofs.YtkpkfihaihoaeaaGreatDoor.M
end
section
set_option linter.unusedVariables false
set_option linter.unusedSimpArgs false
namespace Go.Proofs.YtkpkfihaihoaeaaGreatDoor.M
open Go.RowKit
def rdTo (W : Web) (R : List Run) (k : Nat) : List ByteArray := ((R.take k).filter (isReady W R)).map Run.Name
theorem rdTo_zero (W : Web) (R : List Run) : rdTo W R 0 = [] := rfl
theorem rdTo_yes {W : Web} {R : List Run} {k : Nat} (hk : k < R.length) (h : isReady W R R[k] = true) : rdTo W R (k + 1) = rdTo W R k ++ [R[k].Name] := by
 unfold rdTo; rw [List.take_succ_eq_append_getElem hk, List.filter_append, List.map_append]; simp [h]
theorem rdTo_no {W : Web} {R : List Run} {k : Nat} (hk : k < R.length) (h : isReady W R R[k] = false) : rdTo W R (k + 1) = rdTo W R k := by
 unfold rdTo; rw [List.take_succ_eq_append_getElem hk, List.filter_append, List.map_append]; simp [h]
theorem rdTo_end (W : Web) (R : List Run) : rdTo W R R.length = readyL W R := by unfold rdTo readyL readyR; rw [List.take_length]
theorem rdTo_len (W : Web) (R : List Run) (k : Nat) : (rdTo W R k).length ≤ k := by
 unfold rdTo; rw [List.length_map]
 exact Nat.le_trans (List.length_filter_le _ _) (by rw [List.length_take]; omega)
set_option maxRecDepth 100000 in
set_option maxHeartbeats 4000000 in
theorem ready_calls {lo : Nat} (W : Web) (roots : List ByteArray) (R : List Run) (e : Nat) (F : List Nat) (w : World) (h : Eng lo w W roots R e F) (hw : checkWeb W = 0) (hI : Inv W R) :
  Calls Tryz.prog 83 #[.pointer (some ⟨e, 0, none⟩)] w (MadeV w (strsT 9 (readyL W R))) := by
 have hE := Asd.mk h
 obtain ⟨m, nv, rv, L, Fr, W0, tN, tS, tC, hX⟩ := h
 obtain ⟨A, c, B, d, rfl, rfl, _, _, c0, c1, c2⟩ := hX.cells
 replace hX := Asd.mk hX
 replace hI := Asd.mk hI
 have hRl : R.length ≤ 60 := by have := hI.out.length hw; have := (checkWeb_ok hw).1; omega
 go_enter Tryz.func83, Tryz.ntmps83
 go_wp2_with fail
 refine (names_calls W roots R e F _ hE.out (by omega)).mono ?_
 obtain ⟨ns, hns⟩ : ∃ ns, R.map Run.Name = ns := ⟨_, rfl⟩
 have hnl := Asd.mk (show ns.length = R.length by rw [← hns, List.length_map])
 have hnk := Asd.mk (show ∀ k (h : k < ns.length) (h' : k < R.length), ns[k] = R[k].Name by subst hns; intro k h h'; simp)
 rw [hns]
 clear hns
 rintro e' w2 ⟨v2, rfl, ⟨Fn, on, nn, ln⟩, hb⟩
 obtain ⟨A2, d2, rfl, _, _⟩ := own_slice on
 have hb2 := Asd.mk hb
 have hnr := Asd.mk on.rep
 have hz2 := hb.size
 clear hb on ln nn
 have hns2 : ns.length ≤ 9223372036854775807 := by have := hnl.out; omega
 go_wp2
 go_loopw [3, 9] (fun s3 i wr => ∃ k : Nat, k ≤ ns.length ∧ i = .int .i64 k ∧ Lie w2.heap.size wr (strsT 9 (rdTo W R k)) s3 ∧ Below w2.heap.size w2 wr) (fun _ i _ => ns.length - (intOf i).toNat)
 case atStart => exact ⟨0, by omega, rfl, by rw [rdTo_zero]; exact Lie.nil _ _ _ _, Below.refl _ _⟩
 case round =>
  obtain ⟨k, hk, rfl, hL, hbr⟩ := hrel
  obtain ⟨Av, cv, rfl, _, _⟩ := hL.slice
  have hlen := rdTo_len W R k
  have hbw := below_st hb2.out hbr
  by_cases hlt : k < ns.length
  ·have hkR : k < R.length := by have := hnl.out; omega
   obtain ⟨a, c', he', hcell⟩ := str_elem (hnr.out.below hbr) hlt
   cases he'
   have hq : runOf R ns[k] = some R[k] := by rw [hnk.out k hlt hkR]; exact runOf_mem hX.out.asc (List.getElem_mem hkR)
   have hXr := Asd.mk (hX.out.later hbw)
   obtain ⟨x, hx, hxr, hl⟩ := hXr.out.run_some hq
   have x2 := cell_below hbw c2
   have hRk := Asd.mk (hI.out.ok x.r (by rw [hxr]; exact List.getElem_mem hkR))
   have hnm := Asd.mk (hnk.out k hlt hkR)
   have hzr := hbr.size
   replace hL := Asd.mk hL
   replace hbr := Asd.mk hbr
   replace hbw := Asd.mk hbw
   replace hx := Asd.mk hx
   cases hr : isReady W R R[k] with
   | false =>
    have e1 := Asd.mk (rdTo_no hkR hr)
    go_wp2_with fail
    refine (isReady_calls x _ hXr.out hx.out hw hRk.out).mono ?_
    rw [hxr, hr]
    rintro e' w5 ⟨rfl, hb⟩
    have hb5 := Asd.mk (below_st hbr.out hb)
    have hb6 := Asd.mk hb
    clear hb
    go_wp2
    go_roundw
    case rel => exact ⟨k + 1, by omega, by go_num, by rw [e1.out]; exact hL.out.below (by repeat first|with_reducible (first|exact Below.refl _ _|exact hb6.out|refine below_al ?_ _|refine below_dr ?_ _|refine below_d1 ?_)|(with_reducible refine Below.setCell ?_ ?_ _;rotate_left;next => first|(simp;done)|(simp;omega)|omega)), by repeat first|with_reducible (first|exact Below.refl _ _|exact hb5.out|refine below_al ?_ _|refine below_dr ?_ _|refine below_d1 ?_)|(with_reducible refine Below.setCell ?_ ?_ _;rotate_left;next => first|(simp;done)|(simp;omega)|omega)⟩
    case measure => simp [intOf]; omega
   | true =>
    have e1 := Asd.mk (rdTo_yes hkR hr)
    rw [← hnm.out] at e1
    go_wp2_with fail
    refine (isReady_calls x _ hXr.out hx.out hw hRk.out).mono ?_
    rw [hxr, hr]
    rintro e' w5 ⟨rfl, hb⟩
    have hb5 := Asd.mk (below_st hbr.out hb)
    have hb6 := Asd.mk hb
    have hz5 := hb.size
    clear hb
    go_wp2_with (at_builtin; refine appStr rfl rfl rfl (lo := w2.heap.size) (wr := wr) hzr hL.out (by repeat first|with_reducible (first|exact Below.refl _ _|exact hb6.out|refine below_al ?_ _|refine below_dr ?_ _|refine below_d1 ?_)|(with_reducible refine Below.setCell ?_ ?_ _;rotate_left;next => first|(simp;done)|(simp;omega)|omega)) rfl (heap_alloc_new _ _) (by omega) ?_)
    intro v7 w7 hL7 hF7
    obtain ⟨A7, d7, rfl, _, _⟩ := hL7.slice
    have hb7 := Asd.mk (Far.trans (show Below w2.heap.size w2 _ from by repeat first|with_reducible (first|exact Below.refl _ _|exact hb5.out|refine below_al ?_ _|refine below_dr ?_ _|refine below_d1 ?_)|(with_reducible refine Below.setCell ?_ ?_ _;rotate_left;next => first|(simp;done)|(simp;omega)|omega)) hF7 (Nat.le_refl _) (by simp; omega))
    replace hL7 := Asd.mk hL7
    clear hF7
    go_wp2
    go_roundw
    case rel => exact ⟨k + 1, by omega, by go_num, by rw [e1.out]; exact hL7.out, by repeat first|with_reducible (first|exact Below.refl _ _|exact hb7.out|refine below_al ?_ _|refine below_dr ?_ _|refine below_d1 ?_)|(with_reducible refine Below.setCell ?_ ?_ _;rotate_left;next => first|(simp;done)|(simp;omega)|omega)⟩
    case measure => simp [intOf]; omega
  ·obtain rfl : k = ns.length := by omega
   have e1 := Asd.mk (show rdTo W R ns.length = readyL W R by rw [hnl.out]; exact rdTo_end W R)
   replace hL := Asd.mk hL
   replace hbw := Asd.mk hbw
   go_wp2
   go_ret
   refine ⟨_, rfl, ?_, hbw.out⟩
   rw [← e1.out]
   exact hL.out.mono (by omega)
end Go.Proofs.YtkpkfihaihoaeaaGreatDoor.M
end
section
set_option linter.unusedVariables false
set_option linter.unusedSimpArgs false
namespace Go.Proofs.YtkpkfihaihoaeaaGreatDoor.M
open Go.RowKit
def AnsS (o : Option (List Answer)) (w : World) (e : Ending) (w' : World) : Prop := ∃ v, e = .returned (.tuple #[v, .bool o.isSome]) ∧ (∀ xs, o = some xs → Lie w.heap.size w' (AnswersT 102 xs) v) ∧ Below w.heap.size w w'
set_option maxRecDepth 100000 in
set_option maxHeartbeats 4000000 in
theorem answers3_calls {t tN tS tC tD : Nat} (W : Web) (l : List Run) (s : Step) (kb : Nat) (A B : Option Addr) (c d : Nat) (w : World) {vs : List Value} (c0 : w.cell? ⟨kb, 0, none⟩ = some (.slice A W.Nodes.length c)) (c1 : w.cell? ⟨kb, 1, none⟩ = some (.slice B l.length d)) (hw : rep w (NodesT tN tS tC W.Nodes) (.slice A W.Nodes.length c)) (h : rep w (RunsT t l) (.slice B l.length d)) (hs : reps w (Step.c tD s) vs) (hl : l.length ≤ 1000000) (hq : ∀ q ∈ s.Asks, q.size ≤ 1000000) (hal : s.Asks.length ≤ 100000) :
  Calls Tryz.prog 161 #[.pointer (some ⟨kb, 0, none⟩), .agg vs.toArray] w (AnsS (answersOf W l s.Asks) w) := by
 obtain ⟨v0, v2, rfl, h0, h2⟩ := Step.ropen hs
 obtain ⟨D0, d0, rfl, _, _⟩ := rep_len h0
 obtain ⟨D2, d2, rfl, _, _⟩ := rep_len h2
 have hkb := World.block_lt_of_cell? _ _ c0
 replace h0 := Asd.mk h0
 replace hw := Asd.mk hw
 replace h := Asd.mk h
 clear hs h2
 go_enter Tryz.func161, Tryz.ntmps161
 go_upto_region 1 with (fail)
 obtain ⟨X, eX⟩ : ∃ X : World, X = w.alloc (.cells #[.slice D0 s.Asks.length d0, .int .i64 s.On, .slice D2 s.Cases.length d2, .int .i64 s.Else, .int .i64 s.Fall, .bool s.End, .bool s.Bad, .string s.Give] 121) := ⟨_, rfl⟩
 rw [← eX]
 have hbX := Asd.mk (show Below w.heap.size w X from eX ▸ below_al (Below.refl _ _) _)
 have hX0 : X.cell? ⟨w.heap.size, 0, none⟩ = some (.slice D0 s.Asks.length d0) := by rw [eX]; go_simp
 have zX : w.heap.size < X.heap.size := by rw [eX]; simp
 clear eX
 have hE := Asd.mk (Lie.empty X 102 2)
 go_wp2
 go_loopw [6, 7] (fun s6 i wr => ∃ (k : Nat) (xs : List Answer), k ≤ s.Asks.length ∧ i = .int .i64 k ∧ answersOf W l (s.Asks.take k) = some xs ∧ Lie X.heap.size wr (AnswersT 102 xs) s6 ∧ Below X.heap.size X wr) (fun _ i _ => s.Asks.length - (intOf i).toNat)
 case atStart => exact ⟨0, [], by omega, rfl, by rw [List.take_zero]; rfl, hE.out, by repeat first|with_reducible (first|exact Below.refl _ _|exact Below.refl _ _|refine below_al ?_ _|refine below_dr ?_ _|refine below_d1 ?_)|(with_reducible refine Below.setCell ?_ ?_ _;rotate_left;next => first|(simp;done)|(simp;omega)|omega)⟩
 case round =>
  obtain ⟨k, xs, hk, rfl, hxs, hL, hbr⟩ := hrel
  have hxl : xs.length ≤ k := by have := answersOf_len hxs; rw [List.length_take] at this; omega
  obtain ⟨Ax, cx, rfl, _, _⟩ := hL.slice
  have hbw : Below w.heap.size w wr := below_st hbX.out hbr
  have hzr := hbr.size
  by_cases hlt : k < s.Asks.length
  ·obtain ⟨a, c', he, hcell⟩ := str_elem (h0.out.below hbw) hlt
   cases he
   have hqs := hq _ (List.getElem_mem hlt)
   have x0 := cell_below hbw c0
   have x1 := cell_below hbw c1
   have hX0r := cell_below hbr hX0
   replace hbw := Asd.mk hbw
   replace hL := Asd.mk hL
   replace hbr := Asd.mk hbr
   replace hxs := Asd.mk hxs
   go_wp2_with fail
   refine (answer3_calls W l s.Asks[k] kb A B c d _ x0 x1 (hw.out.below hbw.out) (h.out.below hbw.out) hl hqs).mono ?_
   rintro e' w1 ⟨rfl, hb⟩
   have hb1 := Asd.mk (below_st hbr.out hb)
   have hb0 := Asd.mk hb
   have hz1 := hb.size
   clear hb
   cases hA : answerOf W l s.Asks[k] with
   | none =>
    have e1 := Asd.mk (answersOf_no hlt hA)
    simp only [ansV, ansOr, Option.getD_none, Option.isSome_none]
    go_wp2
    refine bodyPost_ret (v := .tuple #[.slice Ax xs.length cx, .bool false]) (by simp [results, Tryz.results161, go_sem, *]) rfl ?_
    rw [e1.out]
    exact ⟨_, rfl, (fun _ h => by cases h), by repeat first|with_reducible (first|exact Below.refl _ _|exact below_st hbX.out hb1.out|refine below_al ?_ _|refine below_dr ?_ _|refine below_d1 ?_)|(with_reducible refine Below.setCell ?_ ?_ _;rotate_left;next => first|(simp;done)|(simp;omega)|omega)⟩
   | some x =>
    have e1 := Asd.mk (answersOf_step hlt hxs.out hA)
    simp only [ansV, ansOr, Option.getD_some, Option.isSome_some]
    go_wp2_with (at_builtin; refine appL rfl rfl Tryz.underlying173 info_Answer rfl (by decide) rfl (lo := X.heap.size) (wr := wr) (by omega) hL.out (by repeat first|with_reducible (first|exact Below.refl _ _|exact hb0.out|refine below_al ?_ _|refine below_dr ?_ _|refine below_d1 ?_)|(with_reducible refine Below.setCell ?_ ?_ _;rotate_left;next => first|(simp;done)|(simp;omega)|omega)) rfl (one_cells (heap_alloc_new1 _ _ _)) (by simp) ⟨[], Answer.omk x, List.nodup_nil, fun b hb => by cases hb⟩ (by simp [maxLen]; omega) (by omega) ?_)
    intro v7 w7 hL7 hF7
    obtain ⟨A7, d7, rfl, _, _⟩ := hL7.slice
    have hb7 := Asd.mk (Far.trans (show Below X.heap.size X _ from by repeat first|with_reducible (first|exact Below.refl _ _|exact hb1.out|refine below_al ?_ _|refine below_dr ?_ _|refine below_d1 ?_)|(with_reducible refine Below.setCell ?_ ?_ _;rotate_left;next => first|(simp;done)|(simp;omega)|omega)) hF7 (by omega) (by simp; omega))
    replace hL7 := Asd.mk hL7
    clear hF7
    go_wp2
    go_roundw
    case rel => exact ⟨k + 1, xs ++ [x], by omega, by go_num, e1.out, by rw [AnswersT_snoc]; simpa using hL7.out, by repeat first|with_reducible (first|exact Below.refl _ _|exact hb7.out|refine below_al ?_ _|refine below_dr ?_ _|refine below_d1 ?_)|(with_reducible refine Below.setCell ?_ ?_ _;rotate_left;next => first|(simp;done)|(simp;omega)|omega)⟩
    case measure => simp [intOf]; omega
  ·obtain rfl : k = s.Asks.length := by omega
   rw [List.take_length] at hxs
   have e1 := Asd.mk hxs
   have hX0r := cell_below hbr hX0
   replace hL := Asd.mk hL
   replace hbw := Asd.mk hbw
   go_wp2
   refine bodyPost_ret (v := .tuple #[.slice Ax xs.length cx, .bool true]) (by simp [results, Tryz.results161, go_sem, *]) rfl ?_
   rw [e1.out]
   exact ⟨_, rfl, (fun ys hy => by cases hy; exact hL.out.mono (by omega)), hbw.out⟩
set_option maxRecDepth 100000 in
set_option maxHeartbeats 4000000 in
theorem l3Good_calls {tA : Nat} (xs : List Answer) (v : Value) (w : World) (h : rep w (AnswersT tA xs) v) (hl : xs.length ≤ 100000) : Calls Tryz.prog 174 #[v] w (MadeV w (strsT 9 (goodT xs))) := by
 obtain ⟨A, c, rfl, _, hn⟩ := rep_len h
 replace h := Asd.mk h
 have hE := Asd.mk (Lie.empty w 9 1)
 go_enter Tryz.func174, Tryz.ntmps174
 go_wp2
 go_loopw [3, 4] (fun s3 i wr => ∃ k : Nat, k ≤ xs.length ∧ i = .int .i64 k ∧ Lie w.heap.size wr (strsT 9 (gdTo xs k)) s3 ∧ Below w.heap.size w wr) (fun _ i _ => xs.length - (intOf i).toNat)
 case atStart => exact ⟨0, by omega, rfl, by rw [gdTo_zero]; exact hE.out, by repeat first|with_reducible (first|exact Below.refl _ _|exact Below.refl _ _|refine below_al ?_ _|refine below_dr ?_ _|refine below_d1 ?_)|(with_reducible refine Below.setCell ?_ ?_ _;rotate_left;next => first|(simp;done)|(simp;omega)|omega)⟩
 case round =>
  obtain ⟨k, hk, rfl, hL, hbr⟩ := hrel
  obtain ⟨Ax, cx, rfl, _, _⟩ := hL.slice
  have hzr := hbr.size
  have hgl := gdTo_len xs k
  by_cases hlt : k < xs.length
  ·obtain ⟨y, c', he, m0, m1, mr⟩ := Answer.elem (h.out.below hbr) hlt
   cases he
   clear mr
   replace hL := Asd.mk hL
   replace hbr := Asd.mk hbr
   cases hx : xs[k].Fail with
   | true =>
    rw [hx] at m0
    have e1 := Asd.mk (gdTo_no hlt hx)
    go_wp2
    go_roundw
    case rel => exact ⟨k + 1, by omega, by go_num, by rw [e1.out]; exact hL.out, hbr.out⟩
    case measure => simp [intOf]; omega
   | false =>
    rw [hx] at m0
    have e1 := Asd.mk (gdTo_yes hlt hx)
    go_wp2_with (at_builtin; refine appStr rfl rfl rfl (lo := w.heap.size) (wr := wr) hzr hL.out (by repeat first|with_reducible (first|exact Below.refl _ _|exact Below.refl _ _|refine below_al ?_ _|refine below_dr ?_ _|refine below_d1 ?_)|(with_reducible refine Below.setCell ?_ ?_ _;rotate_left;next => first|(simp;done)|(simp;omega)|omega)) rfl (heap_alloc_new _ _) (by omega) ?_)
    intro v7 w7 hL7 hF7
    obtain ⟨A7, d7, rfl, _, _⟩ := hL7.slice
    have hb7 := Asd.mk (Far.trans (show Below w.heap.size w _ from by repeat first|with_reducible (first|exact Below.refl _ _|exact hbr.out|refine below_al ?_ _|refine below_dr ?_ _|refine below_d1 ?_)|(with_reducible refine Below.setCell ?_ ?_ _;rotate_left;next => first|(simp;done)|(simp;omega)|omega)) hF7 (Nat.le_refl _) (by simp; omega))
    replace hL7 := Asd.mk hL7
    clear hF7
    go_wp2
    go_roundw
    case rel => exact ⟨k + 1, by omega, by go_num, by rw [e1.out]; exact hL7.out, by repeat first|with_reducible (first|exact Below.refl _ _|exact hb7.out|refine below_al ?_ _|refine below_dr ?_ _|refine below_d1 ?_)|(with_reducible refine Below.setCell ?_ ?_ _;rotate_left;next => first|(simp;done)|(simp;omega)|omega)⟩
    case measure => simp [intOf]; omega
  ·obtain rfl : k = xs.length := by omega
   have e1 := Asd.mk (gdTo_end xs)
   replace hL := Asd.mk hL
   go_wp2
   go_ret
   refine ⟨_, rfl, ?_, hbr⟩
   rw [← e1.out]
   exact hL.out
end Go.Proofs.YtkpkfihaihoaeaaGreatDoor.M
end
section
set_option linter.unusedVariables false
set_option linter.unusedSimpArgs false
namespace Go.Proofs.YtkpkfihaihoaeaaGreatDoor.M
open Go.RowKit
set_option maxRecDepth 100000 in
set_option maxHeartbeats 2000000 in
theorem l4At_calls {t : Nat} (x : State) (q : ByteArray) (w : World) {vs : List Value} (h : reps w (State.c t x) vs) :
  Calls Tryz.prog 71 #[.agg vs.toArray, .string q] w fun e w' => e = .returned (.int .i64 (atR x.Runs q)) ∧ Below w.heap.size w w' := by
 obtain ⟨v0, v1, rfl, h0, h1⟩ := State.ropen h
 obtain ⟨A, c, rfl, _, _⟩ := rep_len h0
 obtain ⟨B, d, rfl, _, hle⟩ := rep_len h1
 replace h1 := Asd.mk h1
 clear h h0
 go_enter Tryz.func71, Tryz.ntmps71
 go_wp2
 go_loop [5] (fun i => ∃ k : Nat, k ≤ x.Runs.length ∧ i = .int .i64 k ∧ noR x.Runs q k) (fun i => x.Runs.length - (intOf i).toNat)
 case atStart => exact ⟨0, by omega, rfl, noR_zero _ _⟩
 case round =>
  obtain ⟨k, hk, rfl, hA⟩ := hrel
  by_cases hlt : k < x.Runs.length
  ·obtain ⟨a, c', v6, he, k0, _⟩ := Run.elem (h1.out.below (below_al (Below.refl _ _) (.cells #[.slice A x.Roots.length c, .slice B x.Runs.length d] 38))) hlt
   cases he
   by_cases hx : rIs q x.Runs[k] = true
   ·have e1 := Asd.mk (atR_yes hA hlt hx)
    replace hx : (x.Runs[k].Name.toList == q.toList) = true := hx
    go_wp2
    go_ret
    exact ⟨by rw [e1.out]; rfl, below_al (Below.refl _ _) _⟩
   ·have hx := Bool.eq_false_iff.2 hx
    have e1 := noR_succ hA hlt hx
    replace hx : (x.Runs[k].Name.toList == q.toList) = false := hx
    go_wp2
    go_round
    case rel => exact ⟨k + 1, by omega, by go_num, e1⟩
    case measure => simp [intOf]; omega
  ·obtain rfl : k = x.Runs.length := by omega
   have e1 := Asd.mk (atR_no hA)
   go_wp2
   go_ret
   exact ⟨by rw [e1.out]; rfl, below_al (Below.refl _ _) _⟩
set_option maxRecDepth 100000 in
set_option maxHeartbeats 2000000 in
theorem l4Known_calls (A B D : Option Addr) (n c m d k b : Nat) (w : World) :
  Calls Tryz.prog 160 #[.agg #[.slice A n c], .agg #[.slice D k b, .slice B m d]] w fun e w' => ∃ kb, e = .returned (.pointer (some ⟨kb, 0, none⟩)) ∧ w'.cell? ⟨kb, 0, none⟩ = some (.slice A n c) ∧ w'.cell? ⟨kb, 1, none⟩ = some (.slice B m d) ∧ Below w.heap.size w w' := by
 go_enter Tryz.func160, Tryz.ntmps160
 go_wp2
 go_ret
 exact ⟨_, rfl, by go_simp, by go_simp, by repeat first|with_reducible (first|exact Below.refl _ _|exact Below.refl _ _|refine below_al ?_ _|refine below_dr ?_ _|refine below_d1 ?_)|(with_reducible refine Below.setCell ?_ ?_ _;rotate_left;next => first|(simp;done)|(simp;omega)|omega)⟩
theorem atN_some {xs : List Node} {q : ByteArray} (h : hasN xs q = true) : ∃ i, ∃ hi : i < xs.length, atN xs q = (i : Int) ∧ xs[i] = nodeOf xs q := by
 obtain ⟨n, hn, e⟩ := (hasN_iff xs q).1 h
 unfold nodeOf
 cases hf : xs.find? (nmB q) with
 | none => exact absurd ((nmB_iff q n).2 e) (by simpa using List.find?_eq_none.1 hf n hn)
 | some m =>
  obtain ⟨hp, i, hi, he, hno⟩ := List.find?_eq_some_iff_getElem.1 hf
  exact ⟨i, hi, atN_yes (fun j hj hji => by have := hno j hji; simpa using this) hi (by rw [he]; exact hp), he⟩
theorem node_atN {W : Web} {q : ByteArray} (h : hasN W.Nodes q = true) : ∃ na, ∃ h : na < W.Nodes.length, atN W.Nodes q = (na : Int) ∧ W.Nodes[na].Action = actOf W q := by
 obtain ⟨i, hi, h1, h2⟩ := atN_some h
 exact ⟨i, hi, h1, by rw [h2]; rfl⟩
set_option maxRecDepth 100000 in
set_option maxHeartbeats 4000000 in
theorem l4CanGo_calls {t tN tS tC : Nat} (W : Web) (x : State) (r : Run) (w : World) {us vs rs : List Value} (hW : reps w (W.c tN tS tC) us) (h : reps w (State.c t x) vs) (hr : reps w (Run.c r) rs) (hw : checkWeb W = 0) (hI : RunOk W r) (hl : x.Runs.length ≤ 1000000) :
  Calls Tryz.prog 133 #[.agg us.toArray, .agg vs.toArray, .agg rs.toArray] w fun e w' => e = .returned (.bool (isReady W x.Runs r)) ∧ Below w.heap.size w w' := by
 obtain ⟨v0, rfl, h0⟩ := Web.ropen hW
 obtain ⟨A, c, rfl, _, _⟩ := rep_len h0
 obtain ⟨u0, u1, rfl, g0, g1⟩ := State.ropen h
 obtain ⟨D, k, rfl, _, _⟩ := rep_len g0
 obtain ⟨B, d, rfl, _, _⟩ := rep_len g1
 obtain ⟨v6, rfl, h6⟩ := Run.ropen hr
 obtain ⟨E, e, rfl, _, _⟩ := rep_len h6
 clear hW h hr g0 h6
 replace h0 := Asd.mk h0
 replace g1 := Asd.mk g1
 cases hO : r.Over with
 | true =>
  have e1 := Asd.mk (show isReady W x.Runs r = false by unfold isReady; rw [hO]; rfl)
  go_enter Tryz.func133, Tryz.ntmps133
  go_wp2
  go_ret
  rw [e1.out]
  exact ⟨rfl, by repeat first|with_reducible (first|exact Below.refl _ _|exact Below.refl _ _|refine below_al ?_ _|refine below_dr ?_ _|refine below_d1 ?_)|(with_reducible refine Below.setCell ?_ ?_ _;rotate_left;next => first|(simp;done)|(simp;omega)|omega)⟩
 | false =>
 by_cases hV : r.Visits = 0
 ·have hVd : (r.Visits == 0) = true := by simp [hV]
  have e1 := Asd.mk (show isReady W x.Runs r = true by unfold isReady; rw [hO, hV]; rfl)
  go_enter Tryz.func133, Tryz.ntmps133
  go_wp2
  go_ret
  rw [e1.out]
  exact ⟨rfl, by repeat first|with_reducible (first|exact Below.refl _ _|exact Below.refl _ _|refine below_al ?_ _|refine below_dr ?_ _|refine below_d1 ?_)|(with_reducible refine Below.setCell ?_ ?_ _;rotate_left;next => first|(simp;done)|(simp;omega)|omega)⟩
 have hVd : (r.Visits == 0) = false := by simp [hV]
 have hVd2 : decide (r.Visits = 0) = false := by simp [hV]
 obtain ⟨n, hK1⟩ := stepK hw hI
 have hat := hK1.at_
 obtain ⟨na, hna, hN⟩ : ∃ na, ∃ h : na < W.Nodes.length, atN W.Nodes r.Name = (na : Int) ∧ W.Nodes[na].Action = actOf W r.Name := by
  exact node_atN hI.web
 have hK1 := Asd.mk hK1
 have e1 := Asd.mk (show isReady W x.Runs r = (answersOf W x.Runs (stepOf W r).Asks).isSome by unfold isReady; rw [hO]; simp [hV])
 obtain ⟨Z, eZ⟩ : ∃ Z : World, Z = ((w.alloc (.cells #[.slice A W.Nodes.length c] 34)).alloc (.cells #[.slice D x.Roots.length k, .slice B x.Runs.length d] 38)).alloc (.cells #[.string r.Name, .bool false, .bool r.Fail, .string r.Text, .int .i64 (n : Int), .int .i64 r.Visits, .slice E r.Texts.length e] 84) := ⟨_, rfl⟩
 have hbZ : Below w.heap.size w Z := eZ ▸ by repeat first|with_reducible (first|exact Below.refl _ _|exact Below.refl _ _|refine below_al ?_ _|refine below_dr ?_ _|refine below_d1 ?_)|(with_reducible refine Below.setCell ?_ ?_ _;rotate_left;next => first|(simp;done)|(simp;omega)|omega)
 have a0 : Z.cell? ⟨w.heap.size, 0, none⟩ = some (.slice A W.Nodes.length c) := by rw [eZ]; go_simp
 have b0 : Z.cell? ⟨w.heap.size + 1, 0, none⟩ = some (.slice D x.Roots.length k) := by rw [eZ]; go_simp
 have b1 : Z.cell? ⟨w.heap.size + 1, 1, none⟩ = some (.slice B x.Runs.length d) := by rw [eZ]; go_simp
 have d0 : Z.cell? ⟨w.heap.size + 1 + 1, 0, none⟩ = some (.string r.Name) := by rw [eZ]; go_simp
 have d4 : Z.cell? ⟨w.heap.size + 1 + 1, 4, none⟩ = some (.int .i64 (n : Int)) := by rw [eZ]; go_simp
 have d5 : Z.cell? ⟨w.heap.size + 1 + 1, 5, none⟩ = some (.int .i64 r.Visits) := by rw [eZ]; go_simp
 have hkeep := Asd.mk (show ∀ Y, Below Z.heap.size Z Y → (Below Z.heap.size Z Y ∧ Y.cell? ⟨w.heap.size, 0, none⟩ = some (.slice A W.Nodes.length c) ∧ Y.cell? ⟨w.heap.size + 1, 0, none⟩ = some (.slice D x.Roots.length k) ∧ Y.cell? ⟨w.heap.size + 1, 1, none⟩ = some (.slice B x.Runs.length d) ∧ Y.cell? ⟨w.heap.size + 1 + 1, 0, none⟩ = some (.string r.Name) ∧ Y.cell? ⟨w.heap.size + 1 + 1, 4, none⟩ = some (.int .i64 (n : Int))) from fun Y hb => ⟨hb, cell_below hb a0, cell_below hb b0, cell_below hb b1, cell_below hb d0, cell_below hb d4⟩)
 have s_0 : Below Z.heap.size Z Z.drew := (Below.refl _ _).drew
 have hstep := Asd.mk hK1.out.step
 have hlt := hK1.out.lt
 obtain ⟨a, ha⟩ : ∃ a, actOf W r.Name = a := ⟨_, rfl⟩
 have hst : Asd (∃ h : n < a.Steps.length, stepOf W r = a.Steps[n]) := Asd.mk (ha ▸ ⟨hlt, hstep.out⟩)
 rw [ha] at hlt hN
 obtain ⟨hN1, hN2⟩ := hN
 replace hN1 := Asd.mk hN1
 obtain ⟨ad, c', v2, hv, k0, k1, k2, k3, _⟩ := Node.elem (h0.out.below hbZ) hna
 cases hv
 rw [hN2] at k3
 replace hN2 := Asd.mk hN2
 clear hstep
 obtain ⟨A2, c2, rfl, _, _⟩ := rep_len k3
 obtain ⟨ad2, c3, w0, w2, hv, m0, m1, m2, m3, m4, m5, m6, m7, _, _, m8⟩ := Step.elem k3 hlt
 cases hv
 replace m8 := Asd.mk m8
 replace k3 := Asd.mk k3
 replace hbZ := Asd.mk hbZ
 clear k0 k1
 go_enter Tryz.func133, Tryz.ntmps133
 go_upto_region 5 with (fail)
 rw [← eZ]
 clear eZ
 refine wp_region_held_drew (S := fun Y => Below Z.heap.size Z Y ∧ Y.cell? ⟨w.heap.size, 0, none⟩ = some (.slice (some ad) W.Nodes.length c) ∧ Y.cell? ⟨w.heap.size + 1, 0, none⟩ = some (.slice D x.Roots.length k) ∧ Y.cell? ⟨w.heap.size + 1, 1, none⟩ = some (.slice B x.Runs.length d) ∧ Y.cell? ⟨w.heap.size + 1 + 1, 0, none⟩ = some (.string r.Name) ∧ Y.cell? ⟨w.heap.size + 1 + 1, 4, none⟩ = some (.int .i64 (n : Int))) (by kernel_rfl) (hkeep.out _ s_0) (fun hHeld => ?_)
 (((refine wH 0 (v:=?_) rfl (by kernel_rfl) (fun _ _ _ h => h) (by rfl) ?_ (by assumption) ?_;rotate_left;next => ((intro X hX;(try dsimp only at hX);go_simp);try with_reducible rfl));try simp only [Act.put,List.getElem_toArray,List.getElem_cons_succ,List.getElem_cons_zero,List.setIfInBounds_toArray,List.set_cons_zero,List.set_cons_succ]); ((refine wH 1 (v:=?_) rfl (by kernel_rfl) (fun _ _ _ h => h) (by rfl) ?_ (by assumption) ?_;rotate_left;next => ((intro X hX;(try dsimp only at hX);go_simp);try with_reducible rfl));try simp only [Act.put,List.getElem_toArray,List.getElem_cons_succ,List.getElem_cons_zero,List.setIfInBounds_toArray,List.set_cons_zero,List.set_cons_succ]); ((refine wH 3 (v:=?_) rfl (by kernel_rfl) (fun _ _ _ h => h) (by rfl) ?_ (by assumption) ?_;rotate_left;next => ((intro X hX;(try dsimp only at hX);go_simp);try with_reducible rfl));try simp only [Act.put,List.getElem_toArray,List.getElem_cons_succ,List.getElem_cons_zero,List.setIfInBounds_toArray,List.set_cons_zero,List.set_cons_succ]); ((refine wH 4 (v:=?_) rfl (by kernel_rfl) (fun _ _ _ h => h) (by rfl) ?_ (by assumption) ?_;rotate_left;next => ((intro X hX;(try dsimp only at hX);go_simp);try with_reducible rfl));try simp only [Act.put,List.getElem_toArray,List.getElem_cons_succ,List.getElem_cons_zero,List.setIfInBounds_toArray,List.set_cons_zero,List.set_cons_succ]); ((refine wH 5 (v:=?_) rfl (by kernel_rfl) (fun _ _ _ h => h) (by rfl) ?_ (by assumption) ?_;rotate_left;next => ((intro X hX;(try dsimp only at hX);go_simp);try with_reducible rfl));try simp only [Act.put,List.getElem_toArray,List.getElem_cons_succ,List.getElem_cons_zero,List.setIfInBounds_toArray,List.set_cons_zero,List.set_cons_succ]); ((refine wH 6 (v:=?_) rfl (by kernel_rfl) (fun _ _ _ h => h) (by rfl) ?_ (by assumption) ?_;rotate_left;next => ((intro X hX;(try dsimp only at hX);go_simp);try with_reducible rfl));try simp only [Act.put,List.getElem_toArray,List.getElem_cons_succ,List.getElem_cons_zero,List.setIfInBounds_toArray,List.set_cons_zero,List.set_cons_succ]); ((refine wH 7 (v:=?_) rfl (by kernel_rfl) (fun _ _ _ h => h) (by rfl) ?_ (by assumption) ?_;rotate_left;next => ((intro X hX;(try dsimp only at hX);go_simp);try with_reducible rfl));try simp only [Act.put,List.getElem_toArray,List.getElem_cons_succ,List.getElem_cons_zero,List.setIfInBounds_toArray,List.set_cons_zero,List.set_cons_succ]); ((refine wH 13 (v:=?_) rfl (by kernel_rfl) (fun _ _ _ h => h) (by rfl) ?_ (by assumption) ?_;rotate_left;next => ((intro X hX;(try dsimp only at hX);go_simp);try with_reducible rfl));try simp only [Act.put,List.getElem_toArray,List.getElem_cons_succ,List.getElem_cons_zero,List.setIfInBounds_toArray,List.set_cons_zero,List.set_cons_succ]); ((refine wH 14 (v:=?_) rfl (by kernel_rfl) (fun _ _ _ h => h) (by rfl) ?_ (by assumption) ?_;rotate_left;next => ((intro X hX;(try dsimp only at hX);go_simp);try with_reducible rfl));try simp only [Act.put,List.getElem_toArray,List.getElem_cons_succ,List.getElem_cons_zero,List.setIfInBounds_toArray,List.set_cons_zero,List.set_cons_succ]))
 (refine wpAnyH_ready (rs := [2]) (by kernel_rfl) (by simp) ?_; refine AllReadyH.cons rfl (fun K hK => ?_) AllReadyH.nil)
 go_simp
 refine (l4Known_calls (some ad) B D _ _ _ _ _ _ _).mono ?_
 rintro e' w5 ⟨kb, rfl, y0, y1, hb⟩
 have hb5 := Asd.mk (below_st (show Below Z.heap.size Z _ from by repeat first|with_reducible (first|exact Below.refl _ _|exact s_0|refine below_al ?_ _|refine below_dr ?_ _|refine below_d1 ?_)|(with_reducible refine Below.setCell ?_ ?_ _;rotate_left;next => first|(simp;done)|(simp;omega)|omega)) hb)
 obtain ⟨s_0, s_1, s_2, s_3, s_4, s_5⟩ := hkeep.out _ hb5.out
 clear hb
 refine hK.out _ _ (hkeep.out _ s_0) (fun hHeld => ?_)
 clear hK K
 (refine wpAnyH_ready (rs := [8]) (by kernel_rfl) (by simp) ?_; refine AllReadyH.cons rfl (fun K hK => ?_) AllReadyH.nil)
 go_simp
 refine (l2At_calls W r.Name _ (Web.rmk W (h0.out.below (below_st hbZ.out hb5.out)))).mono ?_
 rw [hN1.out]
 rintro e' w6 ⟨rfl, hb⟩
 have hb6 := Asd.mk (below_st hb5.out hb)
 replace y0 := cell_below hb y0
 replace y1 := cell_below hb y1
 obtain ⟨s_0, s_1, s_2, s_3, s_4, s_5⟩ := hkeep.out _ hb6.out
 replace k2 := cell_below hb6.out k2
 replace m0 := cell_below hb6.out m0
 replace m1 := cell_below hb6.out m1
 replace m2 := cell_below hb6.out m2
 replace m3 := cell_below hb6.out m3
 replace m4 := cell_below hb6.out m4
 replace m5 := cell_below hb6.out m5
 replace m6 := cell_below hb6.out m6
 replace m7 := cell_below hb6.out m7
 clear hb hb5
 refine hK.out _ _ (hkeep.out _ s_0) (fun hHeld => ?_)
 clear hK K
 (((refine wH 9 (v:=?_) rfl (by kernel_rfl) (fun _ _ _ h => h) (by rfl) ?_ (by assumption) ?_;rotate_left;next => ((intro X hX;(try dsimp only at hX);go_simp);try with_reducible rfl));try simp only [Act.put,List.getElem_toArray,List.getElem_cons_succ,List.getElem_cons_zero,List.setIfInBounds_toArray,List.set_cons_zero,List.set_cons_succ]); ((refine wH 10 (v:=?_) rfl (by kernel_rfl) (fun _ _ _ h => h) (by rfl) ?_ (by assumption) ?_;rotate_left;next => ((intro X hX;(try dsimp only at hX);go_simp);try with_reducible rfl));try simp only [Act.put,List.getElem_toArray,List.getElem_cons_succ,List.getElem_cons_zero,List.setIfInBounds_toArray,List.set_cons_zero,List.set_cons_succ]); ((refine wH 11 (v:=?_) rfl (by kernel_rfl) (fun _ _ _ h => h) (by rfl) ?_ (by assumption) ?_;rotate_left;next => ((intro X hX;(try dsimp only at hX);go_simp);try with_reducible rfl));try simp only [Act.put,List.getElem_toArray,List.getElem_cons_succ,List.getElem_cons_zero,List.setIfInBounds_toArray,List.set_cons_zero,List.set_cons_succ]))
 (refine wpAnyH_ready (rs := [12]) (by kernel_rfl) (by simp) ?_; refine AllReadyH.cons rfl (fun K hK => ?_) AllReadyH.nil)
 go_simp
 refine hK.out _ _ (hkeep.out _ s_0) (fun hHeld => ?_)
 clear hK K
 (((refine wH 15 (v:=?_) rfl (by kernel_rfl) (fun _ _ _ h => h) (by rfl) ?_ (by assumption) ?_;rotate_left;next => ((intro X hX;(try dsimp only at hX);go_simp);try with_reducible rfl));try simp only [Act.put,List.getElem_toArray,List.getElem_cons_succ,List.getElem_cons_zero,List.setIfInBounds_toArray,List.set_cons_zero,List.set_cons_succ]))
 (refine wpAnyH_ready (rs := [16]) (by kernel_rfl) (by simp) ?_; refine AllReadyH.cons rfl (fun K hK => ?_) AllReadyH.nil)
 go_simp
 refine hK.out _ _ (hkeep.out _ s_0) (fun hHeld => ?_)
 clear hK K
 (refine wpAnyH_ready (rs := [17]) (by kernel_rfl) (by simp) ?_; refine AllReadyH.cons rfl (fun K hK => ?_) AllReadyH.nil)
 go_simp
 obtain ⟨_, hst2⟩ := hst.out
 have hnm := hK1.out.names
 have hak := hK1.out.asks
 rw [hst2] at hnm hak
 refine (answers3_calls W x.Runs a.Steps[n] kb (some ad) B c d _ y0 y1 (h0.out.below (below_st hbZ.out hb6.out)) (g1.out.below (below_st hbZ.out hb6.out)) (m8.out.below hb6.out) hl hnm (by omega)).mono ?_
 rintro e' w7 ⟨v, rfl, _, hb⟩
 have hb7 := Asd.mk (below_st hb6.out hb)
 obtain ⟨s_0, s_1, s_2, s_3, s_4, s_5⟩ := hkeep.out _ hb7.out
 clear hb
 refine hK.out _ _ (hkeep.out _ s_0) (fun hHeld => ?_)
 clear hK K
 (((refine wH 18 (v:=?_) rfl (by kernel_rfl) (fun _ _ _ h => h) (by rfl) ?_ (by assumption) ?_;rotate_left;next => ((intro X hX;(try dsimp only at hX);go_simp);try with_reducible rfl));try simp only [Act.put,List.getElem_toArray,List.getElem_cons_succ,List.getElem_cons_zero,List.setIfInBounds_toArray,List.set_cons_zero,List.set_cons_succ]); ((refine wH 19 (v:=?_) rfl (by kernel_rfl) (fun _ _ _ h => h) (by rfl) ?_ (by assumption) ?_;rotate_left;next => ((intro X hX;(try dsimp only at hX);go_simp);try with_reducible rfl));try simp only [Act.put,List.getElem_toArray,List.getElem_cons_succ,List.getElem_cons_zero,List.setIfInBounds_toArray,List.set_cons_zero,List.set_cons_succ]); ((refine wH 20 (v:=?_) rfl (by kernel_rfl) (fun _ _ _ h => h) (by rfl) ?_ (by assumption) ?_;rotate_left;next => ((intro X hX;(try dsimp only at hX);go_simp);try with_reducible rfl));try simp only [Act.put,List.getElem_toArray,List.getElem_cons_succ,List.getElem_cons_zero,List.setIfInBounds_toArray,List.set_cons_zero,List.set_cons_succ]); ((refine wH 21 (v:=?_) rfl (by kernel_rfl) (fun _ _ _ h => h) (by rfl) ?_ (by assumption) ?_;rotate_left;next => ((intro X hX;(try dsimp only at hX);go_simp);try with_reducible rfl));try simp only [Act.put,List.getElem_toArray,List.getElem_cons_succ,List.getElem_cons_zero,List.setIfInBounds_toArray,List.set_cons_zero,List.set_cons_succ]); ((refine wH 22 (v:=?_) rfl (by kernel_rfl) (fun _ _ _ h => h) (by rfl) ?_ (by assumption) ?_;rotate_left;next => ((intro X hX;(try dsimp only at hX);go_simp);try with_reducible rfl));try simp only [Act.put,List.getElem_toArray,List.getElem_cons_succ,List.getElem_cons_zero,List.setIfInBounds_toArray,List.set_cons_zero,List.set_cons_succ]))
 refine wpAnyH_done (by kernel_rfl) ?_ _
 clear hkeep
 go_wp2
 go_ret
 rw [e1.out, hst2]
 exact ⟨rfl, by repeat first|with_reducible (first|exact Below.refl _ _|exact below_st hbZ.out hb7.out|refine below_al ?_ _|refine below_dr ?_ _|refine below_d1 ?_)|(with_reducible refine Below.setCell ?_ ?_ _;rotate_left;next => first|(simp;done)|(simp;omega)|omega)⟩
set_option maxRecDepth 100000 in
set_option maxHeartbeats 4000000 in
theorem l4Ready_calls {t tN tS tC : Nat} (W : Web) (x : State) (w : World) {us vs : List Value} (hW : reps w (W.c tN tS tC) us) (h : reps w (State.c t x) vs) (hw : checkWeb W = 0) (hI : Inv W x.Runs) :
  Calls Tryz.prog 70 #[.agg us.toArray, .agg vs.toArray] w (MadeV w (strsT 9 (readyL W x.Runs))) := by
 obtain ⟨v0, rfl, h0⟩ := Web.ropen hW
 obtain ⟨A, c, rfl, _, _⟩ := rep_len h0
 obtain ⟨u0, u1, rfl, g0, g1⟩ := State.ropen h
 obtain ⟨D, k, rfl, _, _⟩ := rep_len g0
 obtain ⟨B, d, rfl, _, _⟩ := rep_len g1
 replace h0 := Asd.mk h0
 replace g1 := Asd.mk g1
 replace hW := Asd.mk hW
 replace h := Asd.mk h
 replace hI := Asd.mk hI
 clear g0
 have hRl : x.Runs.length ≤ 60 := by have := hI.out.length hw; have := (checkWeb_ok hw).1; omega
 go_enter Tryz.func70, Tryz.ntmps70
 go_upto_region 1 with (fail)
 obtain ⟨X, eX⟩ : ∃ X : World, X = (w.alloc (.cells #[.slice A W.Nodes.length c] 34)).alloc (.cells #[.slice D x.Roots.length k, .slice B x.Runs.length d] 38) := ⟨_, rfl⟩
 rw [← eX]
 have hbX := Asd.mk (show Below w.heap.size w X from eX ▸ by repeat first|with_reducible (first|exact Below.refl _ _|exact Below.refl _ _|refine below_al ?_ _|refine below_dr ?_ _|refine below_d1 ?_)|(with_reducible refine Below.setCell ?_ ?_ _;rotate_left;next => first|(simp;done)|(simp;omega)|omega))
 have a0 : X.cell? ⟨w.heap.size, 0, none⟩ = some (.slice A W.Nodes.length c) := by rw [eX]; go_simp
 have b0 : X.cell? ⟨w.heap.size + 1, 0, none⟩ = some (.slice D x.Roots.length k) := by rw [eX]; go_simp
 have b1 : X.cell? ⟨w.heap.size + 1, 1, none⟩ = some (.slice B x.Runs.length d) := by rw [eX]; go_simp
 have zX : w.heap.size + 1 < X.heap.size := by rw [eX]; simp
 clear eX
 have hE := Asd.mk (Lie.empty X 9 1)
 go_wp2
 go_loopw [5, 6] (fun s5 i wr => ∃ j : Nat, j ≤ x.Runs.length ∧ i = .int .i64 j ∧ Lie X.heap.size wr (strsT 9 (rdTo W x.Runs j)) s5 ∧ Below X.heap.size X wr) (fun _ i _ => x.Runs.length - (intOf i).toNat)
 case atStart => exact ⟨0, by omega, rfl, by rw [rdTo_zero]; exact hE.out, by repeat first|with_reducible (first|exact Below.refl _ _|exact Below.refl _ _|refine below_al ?_ _|refine below_dr ?_ _|refine below_d1 ?_)|(with_reducible refine Below.setCell ?_ ?_ _;rotate_left;next => first|(simp;done)|(simp;omega)|omega)⟩
 case round =>
  obtain ⟨j, hj, rfl, hL, hbr⟩ := hrel
  obtain ⟨Av, cv, rfl, _, _⟩ := hL.slice
  have hlen := rdTo_len W x.Runs j
  have hbw := below_st hbX.out hbr
  have q0 := cell_below hbr a0
  have q1 := cell_below hbr b0
  have q2 := cell_below hbr b1
  have hzr := hbr.size
  by_cases hlt : j < x.Runs.length
  ·obtain ⟨a, c', v6, he', k0, k1, k2, k3, k4, k5, k6, hk6, hkr⟩ := Run.elem (g1.out.below hbw) hlt
   cases he'
   obtain ⟨Ct, et, rfl, _, _⟩ := rep_len hk6
   have hrun := Asd.mk (hI.out.ok _ (List.getElem_mem hlt))
   replace hkr := Asd.mk hkr
   replace hL := Asd.mk hL
   replace hbr := Asd.mk hbr
   replace hbw := Asd.mk hbw
   clear hk6
   have hz : (j : Int) < (x.Runs.length : Int) := by omega
   cases hr : isReady W x.Runs x.Runs[j] with
   | false =>
    have e1 := Asd.mk (rdTo_no hlt hr)
    go_wp2_with fail
    go_still_tail 7, (by kernel_rfl)
    change wpList _ _ _ _ _ wr.drew
    go_wp2_with fail
    refine (l4CanGo_calls W x x.Runs[j] _ (hW.out.below (by repeat first|with_reducible (first|exact Below.refl _ _|exact hbw.out|refine below_al ?_ _|refine below_dr ?_ _|refine below_d1 ?_)|(with_reducible refine Below.setCell ?_ ?_ _;rotate_left;next => first|(simp;done)|(simp;omega)|omega))) (h.out.below (by repeat first|with_reducible (first|exact Below.refl _ _|exact hbw.out|refine below_al ?_ _|refine below_dr ?_ _|refine below_d1 ?_)|(with_reducible refine Below.setCell ?_ ?_ _;rotate_left;next => first|(simp;done)|(simp;omega)|omega))) (hkr.out.below (by repeat first|with_reducible (first|exact Below.refl _ _|exact Below.refl _ _|refine below_al ?_ _|refine below_dr ?_ _|refine below_d1 ?_)|(with_reducible refine Below.setCell ?_ ?_ _;rotate_left;next => first|(simp;done)|(simp;omega)|omega))) hw hrun.out (by omega)).mono ?_
    rw [hr]
    rintro e' w5 ⟨rfl, hb⟩
    have hb6 := Asd.mk (below_st (show Below wr.heap.size wr _ from by repeat first|with_reducible (first|exact Below.refl _ _|exact Below.refl _ _|refine below_al ?_ _|refine below_dr ?_ _|refine below_d1 ?_)|(with_reducible refine Below.setCell ?_ ?_ _;rotate_left;next => first|(simp;done)|(simp;omega)|omega)) hb)
    have hb5 := Asd.mk (below_st hbr.out hb6.out)
    clear hb
    go_wp2
    go_roundw
    case rel => exact ⟨j + 1, by omega, by go_num, by rw [e1.out]; exact hL.out.below (by repeat first|with_reducible (first|exact Below.refl _ _|exact hb6.out|refine below_al ?_ _|refine below_dr ?_ _|refine below_d1 ?_)|(with_reducible refine Below.setCell ?_ ?_ _;rotate_left;next => first|(simp;done)|(simp;omega)|omega)), by repeat first|with_reducible (first|exact Below.refl _ _|exact hb5.out|refine below_al ?_ _|refine below_dr ?_ _|refine below_d1 ?_)|(with_reducible refine Below.setCell ?_ ?_ _;rotate_left;next => first|(simp;done)|(simp;omega)|omega)⟩
    case measure => simp [intOf]; omega
   | true =>
    have e1 := Asd.mk (rdTo_yes hlt hr)
    go_wp2_with fail
    go_still_tail 7, (by kernel_rfl)
    change wpList _ _ _ _ _ wr.drew
    go_wp2_with fail
    refine (l4CanGo_calls W x x.Runs[j] _ (hW.out.below (by repeat first|with_reducible (first|exact Below.refl _ _|exact hbw.out|refine below_al ?_ _|refine below_dr ?_ _|refine below_d1 ?_)|(with_reducible refine Below.setCell ?_ ?_ _;rotate_left;next => first|(simp;done)|(simp;omega)|omega))) (h.out.below (by repeat first|with_reducible (first|exact Below.refl _ _|exact hbw.out|refine below_al ?_ _|refine below_dr ?_ _|refine below_d1 ?_)|(with_reducible refine Below.setCell ?_ ?_ _;rotate_left;next => first|(simp;done)|(simp;omega)|omega))) (hkr.out.below (by repeat first|with_reducible (first|exact Below.refl _ _|exact Below.refl _ _|refine below_al ?_ _|refine below_dr ?_ _|refine below_d1 ?_)|(with_reducible refine Below.setCell ?_ ?_ _;rotate_left;next => first|(simp;done)|(simp;omega)|omega))) hw hrun.out (by omega)).mono ?_
    rw [hr]
    rintro e' w5 ⟨rfl, hb⟩
    have hb6 := Asd.mk (below_st (show Below wr.heap.size wr _ from by repeat first|with_reducible (first|exact Below.refl _ _|exact Below.refl _ _|refine below_al ?_ _|refine below_dr ?_ _|refine below_d1 ?_)|(with_reducible refine Below.setCell ?_ ?_ _;rotate_left;next => first|(simp;done)|(simp;omega)|omega)) hb)
    have hb5 := Asd.mk (below_st hbr.out hb6.out)
    have hz5 := hb6.out.size
    replace q2 := cell_below hb6.out q2
    replace k0 := cell_below hb6.out k0
    clear hb q0 q1 k1 k2 k3 k4 k5 k6
    go_wp2_with (at_builtin; refine appStr rfl rfl rfl (lo := X.heap.size) (wr := wr) hzr hL.out (by repeat first|with_reducible (first|exact Below.refl _ _|exact hb6.out|refine below_al ?_ _|refine below_dr ?_ _|refine below_d1 ?_)|(with_reducible refine Below.setCell ?_ ?_ _;rotate_left;next => first|(simp;done)|(simp;omega)|omega)) rfl (heap_alloc_new _ _) (by omega) ?_)
    intro v7 w7 hL7 hF7
    obtain ⟨A7, d7, rfl, _, _⟩ := hL7.slice
    have hb7 := Asd.mk (Far.trans (show Below X.heap.size X _ from by repeat first|with_reducible (first|exact Below.refl _ _|exact hb5.out|refine below_al ?_ _|refine below_dr ?_ _|refine below_d1 ?_)|(with_reducible refine Below.setCell ?_ ?_ _;rotate_left;next => first|(simp;done)|(simp;omega)|omega)) hF7 (Nat.le_refl _) (by simp; omega))
    replace hL7 := Asd.mk hL7
    clear hF7
    go_wp2
    go_roundw
    case rel => exact ⟨j + 1, by omega, by go_num, by rw [e1.out]; exact hL7.out, by repeat first|with_reducible (first|exact Below.refl _ _|exact hb7.out|refine below_al ?_ _|refine below_dr ?_ _|refine below_d1 ?_)|(with_reducible refine Below.setCell ?_ ?_ _;rotate_left;next => first|(simp;done)|(simp;omega)|omega)⟩
    case measure => simp [intOf]; omega
  ·obtain rfl : j = x.Runs.length := by omega
   have e1 := Asd.mk (rdTo_end W x.Runs)
   replace hL := Asd.mk hL
   replace hbw := Asd.mk hbw
   go_wp2
   go_ret
   refine ⟨_, rfl, ?_, by repeat first|with_reducible (first|exact Below.refl _ _|exact hbw.out|refine below_al ?_ _|refine below_dr ?_ _|refine below_d1 ?_)|(with_reducible refine Below.setCell ?_ ?_ _;rotate_left;next => first|(simp;done)|(simp;omega)|omega)⟩
   rw [← e1.out]
   exact hL.out.mono (by omega)
end Go.Proofs.YtkpkfihaihoaeaaGreatDoor.M
end
section
set_option linter.unusedVariables false
set_option linter.unusedSimpArgs false
namespace Go.Proofs.YtkpkfihaihoaeaaGreatDoor.M
open Go.RowKit

set_option maxRecDepth 100000 in
set_option maxHeartbeats 4000000 in
theorem validStep_calls {tc : Nat} (x : Step) (n : Int) (w : World) {vs : List Value} (h : reps w (x.c tc) vs) (hn0 : 0 ≤ n) (hn1 : n ≤ 9223372036854775807) (hz : x.Sm) :
    Calls Tryz.prog 181 #[.agg vs.toArray, .int .i64 n] w fun e w' => e = .returned (.bool (stepOk x n)) ∧ Below w.heap.size w w' := by
  unfold Step.Sm at hz
  obtain ⟨v0, v2, rfl, h0, h2⟩ := Step.ropen h
  obtain ⟨A0, c0, rfl, hc0, hn0⟩ := rep_len h0
  obtain ⟨A2, c2, rfl, hc2, hn2⟩ := rep_len h2
  by_cases hE : x.End = true
  · go_enter Tryz.func181, Tryz.ntmps181
    go_wp2
    all_goals go_ret
    all_goals exact ⟨by first | (simp [stepOk, endOk, *]; done) | (simp [stepOk, endOk, *]; intros; omega), (Below.refl _ _).alloc (Nat.le_refl _) _⟩
  have hE := Bool.eq_false_iff.2 hE
  by_cases hP : preOk x n = true
  rotate_left
  · have e1 := Hid.mk' (stepOk_pre hE hP)
    have hP := Hid.mk' hP
    go_enter Tryz.func181, Tryz.ntmps181
    go_wp2_with (first | (go_at_call 118; refine (in_calls _ _ _ _).mono ?_; rintro e w' ⟨rfl, rfl⟩))
    all_goals first
      | (go_ret; exact ⟨by rw [e1.out]; rfl, (Below.refl _ _).alloc (Nat.le_refl _) _⟩)
      | (go_ret; exfalso; refine hP.out ?_; rcases ‹(_ ∨ _) ∨ _› with (h | h) | h <;> first | omega | (simp at h; simp [preOk, *]))
      | (exfalso; refine hP.out ?_; obtain ⟨⟨q1, q2⟩, q3⟩ := ‹(_ ∧ _) ∧ _›; have q4 : x.Asks.length ≤ 5 := by omega
         have q5 : x.Cases.length ≤ 5 := by omega
         simp at q3; simp [preOk, *]; done)
      | (exfalso; refine hP.out ?_; rcases ‹(_ ∨ _) ∨ _› with (h | h) | h <;> first | omega | (simp at h; simp [preOk, *]))
  obtain ⟨hB, hG, hAl, hCl, hEl, hFa⟩ := preOk_iff hP
  have hP := Hid.mk' hP
  have hb := (Below.refl w.heap.size w).alloc (Nat.le_refl _) (.cells #[.slice A0 x.Asks.length c0, .int .i64 x.On, .slice A2 x.Cases.length c2, .int .i64 x.Else, .int .i64 x.Fall, .bool false, .bool false, .string x.Give] 121)
  have h0' := h0.below hb
  go_enter Tryz.func181, Tryz.ntmps181
  go_wp2_with (first | (go_at_call 118; refine (in_calls _ _ _ _).mono ?_; rintro e w' ⟨rfl, rfl⟩))
  go_loop [80] (fun i => ∃ k : Nat, k ≤ x.Asks.length ∧ i = .int .i64 k ∧ nmTo x.Asks k) (fun i => x.Asks.length - (intOf i).toNat)
  case atStart => exact ⟨0, by omega, rfl, nmTo_zero _⟩
  case round =>
    obtain ⟨k, hk, rfl, hA⟩ := hrel
    by_cases hlt : k < x.Asks.length
    · obtain ⟨a, c', he, hcell⟩ := str_elem h0' hlt
      cases he
      have ht := rep_take h0' (fun _ => rfl) hk
      by_cases hx : nameOk x.Asks[k] = true
      · by_cases hy : x.Asks[k] ∈ x.Asks.take k
        · have e1 := Hid.mk' (stepOk_names (n := n) hE (namesOk_not hlt (.inr hy)))
          go_wp2_with (first | (go_at_call 143; refine (goodName_calls _ _).mono ?_; rintro e w' ⟨rfl, rfl⟩) | (go_at_call 145; refine (Contains_calls _ _ _ _ ht).mono ?_; rintro e w' ⟨rfl, rfl⟩))
          go_ret
          exact ⟨by rw [e1.out]; rfl, (Below.refl _ _).alloc (Nat.le_refl _) _⟩
        · have e1 := nmTo_succ hA hlt hx hy
          go_wp2_with (first | (go_at_call 143; refine (goodName_calls _ _).mono ?_; rintro e w' ⟨rfl, rfl⟩) | (go_at_call 145; refine (Contains_calls _ _ _ _ ht).mono ?_; rintro e w' ⟨rfl, rfl⟩))
          go_round
          case rel => exact ⟨k + 1, by omega, by go_num, e1⟩
          case measure => simp [intOf]; omega
      · have hx := Bool.eq_false_iff.2 hx
        have e1 := Hid.mk' (stepOk_names (n := n) hE (namesOk_not hlt (.inl hx)))
        go_wp2_with (first | (go_at_call 143; refine (goodName_calls _ _).mono ?_; rintro e w' ⟨rfl, rfl⟩))
        go_ret
        exact ⟨by rw [e1.out]; rfl, (Below.refl _ _).alloc (Nat.le_refl _) _⟩
    · obtain rfl : k = x.Asks.length := by omega
      have hA := Hid.mk' ((namesOk_iff _).2 hA)
      by_cases hO : onOk x = true
      rotate_left
      · have e1 := Hid.mk' (stepOk_on (n := n) hE (Bool.eq_false_iff.2 hO))
        have hO := Hid.mk' hO
        go_wp2_with (first | (go_at_call 118; refine (in_calls _ _ _ _).mono ?_; rintro e w' ⟨rfl, rfl⟩))
        all_goals try (go_ret; exact ⟨by rw [e1.out]; rfl, (Below.refl _ _).alloc (Nat.le_refl _) _⟩)
        all_goals (exfalso; refine hO.out ?_; simp_all [onOk]; done)
      have hc : (x.Asks.length = 0 ∧ x.On = 0) ∨ (0 < x.Asks.length ∧ inB x.On 0 (x.Asks.length - 1) = true) := by
        unfold onOk at hO
        by_cases h : x.Asks = []
        · left; simp [h] at hO ⊢; exact hO
        · right; simp [h] at hO; exact ⟨List.length_pos_iff.2 h, hO⟩
      have hO' := Hid.mk' hO
      clear hO
      have hc : (((x.Asks.length : Int) == 0) = true ∧ x.Asks = [] ∧ x.On = 0) ∨ (((x.Asks.length : Int) == 0) = false ∧ 0 < x.Asks.length ∧ inB x.On 0 (x.Asks.length - 1) = true) := hc.imp (fun h => ⟨by simp [h.1], List.eq_nil_of_length_eq_zero h.1, h.2⟩) (fun h => ⟨by simp; exact List.length_pos_iff.1 h.1, h⟩)
      rcases hc with ⟨q0, q1, q2⟩ | ⟨q0, q1, q2⟩
      all_goals
        go_wp2_with (first | (go_at_call 118; refine (in_calls _ _ _ _).mono ?_; rintro e w' ⟨rfl, rfl⟩))
        go_loopw [125] (fun i wr => ∃ k : Nat, k ≤ x.Cases.length ∧ i = .int .i64 k ∧ allTo (caseOk n) x.Cases k ∧ Below w.heap.size w wr) (fun i _ => x.Cases.length - (intOf i).toNat)
        case atStart => exact ⟨0, by omega, rfl, allTo_zero _ _, (Below.refl _ _).alloc (Nat.le_refl _) _⟩
        case round =>
          obtain ⟨k, hk, rfl, hA2, hbr⟩ := hrel
          by_cases hlt : k < x.Cases.length
          · obtain ⟨a, c', he, k0, k1, _⟩ := Case.elem (h2.below hbr) hlt
            cases he
            by_cases hx : caseOk n x.Cases[k] = true
            · have e1 := allTo_succ hA2 hlt hx
              obtain ⟨r1, r2⟩ : x.Cases[k].Text.size ≤ 200 ∧ inB x.Cases[k].Goto 0 (n - 1) = true := by simpa [caseOk] using hx
              have hx := Hid.mk' hx
              go_wp2_with (first | (go_at_call 118; refine (in_calls _ _ _ _).mono ?_; rintro e w' ⟨rfl, rfl⟩))
              go_roundw
              case rel => exact ⟨k + 1, by omega, by go_num, e1, hbr.alloc hbr.size _⟩
              case measure => simp [intOf]; omega
            · have e1 := Hid.mk' (stepOk_cases hE (allTo_not hlt (Bool.eq_false_iff.2 hx)))
              have hx := Hid.mk' hx
              go_wp2_with (first | (go_at_call 118; refine (in_calls _ _ _ _).mono ?_; rintro e w' ⟨rfl, rfl⟩))
              all_goals first
                | (go_ret; exact ⟨by rw [e1.out]; rfl, hbr.alloc hbr.size _⟩)
                | (exfalso; refine hx.out ?_; obtain ⟨q3, q4⟩ := ‹_ ∧ _›; simp at q4; simp [caseOk, q4]; omega)
          · obtain rfl : k = x.Cases.length := by omega
            have e1 := Hid.mk' (stepOk_yes hE hP.out hA.out hO'.out (allTo_end hA2))
            go_wp2
            go_ret
            exact ⟨by rw [e1.out]; rfl, hbr⟩

end Go.Proofs.YtkpkfihaihoaeaaGreatDoor.M
end
section
set_option linter.unusedVariables false
set_option linter.unusedSimpArgs false
namespace Go.Proofs.YtkpkfihaihoaeaaGreatDoor.M
open Go.RowKit

set_option maxRecDepth 100000 in
set_option maxHeartbeats 4000000 in
theorem ValidAction_calls {tS tC : Nat} (x : Action) (w : World) {vs : List Value} (h : reps w (x.c tS tC) vs) (hz : x.Sm) :
  Calls Tryz.prog 144 #[.agg vs.toArray] w fun e w' => e = .returned (.bool (actionOk x)) ∧ Below w.heap.size w w' := by
 obtain ⟨v1, rfl, h1⟩ := Action.ropen h
 obtain ⟨A1, c1, rfl, hc1, hn1⟩ := rep_len h1
 have h1 := Asd.mk h1
 clear h
 by_cases p1 : inB x.Cost 1 20 = true
 rotate_left
 ·have e1 := Hid.mk' (show actionOk x = false by simp [actionOk, p1])
  go_enter Tryz.func144, Tryz.ntmps144
  go_wp2_with (first | (go_at_call 118; refine (in_calls _ _ _ _).mono ?_; rintro e w' ⟨rfl, rfl⟩))
  go_ret
  exact ⟨by rw [e1.out]; rfl, (Below.refl _ _).alloc (Nat.le_refl _) _⟩
 by_cases p2 : inB x.Steps.length 1 20 = true
 rotate_left
 ·have e1 := Hid.mk' (show actionOk x = false by simp [actionOk, p2])
  go_enter Tryz.func144, Tryz.ntmps144
  go_wp2_with (first | (go_at_call 118; refine (in_calls _ _ _ _).mono ?_; rintro e w' ⟨rfl, rfl⟩))
  go_ret
  exact ⟨by rw [e1.out]; rfl, (Below.refl _ _).alloc (Nat.le_refl _) _⟩
 have hs : x.Steps.length ≤ 20 := by simp [inB] at p2; omega
 go_enter Tryz.func144, Tryz.ntmps144
 go_wp2_with (first | (go_at_call 118; refine (in_calls _ _ _ _).mono ?_; rintro e w' ⟨rfl, rfl⟩))
 go_loopw [19] (fun i wr => ∃ k : Nat, k ≤ x.Steps.length ∧ i = .int .i64 k ∧ allTo (stepOkN x.Steps.length) x.Steps k ∧ Below w.heap.size w wr ∧ w.heap.size < wr.heap.size ∧ wr.cell? ⟨w.heap.size, 1, none⟩ = some (.slice A1 x.Steps.length c1)) (fun i _ => x.Steps.length - (intOf i).toNat)
 case atStart => exact ⟨0, by omega, rfl, allTo_zero _ _, (Below.refl _ _).alloc (Nat.le_refl _) _, by simp, by go_simp⟩
 case round =>
  obtain ⟨k, hk, rfl, hA2, hbr, hsz, hcl⟩ := hrel
  by_cases hlt : k < x.Steps.length
  ·obtain ⟨a, c', v0, v2, he, k0, k1, k2, k3, k4, k5, k6, k7, h0, h2, hr⟩ := Step.elem (h1.out.below hbr) hlt
   cases he
   obtain ⟨B0, b0, rfl, _, _⟩ := rep_len h0
   obtain ⟨B2, b2, rfl, _, _⟩ := rep_len h2
   have hr := Asd.mk hr
   clear h0 h2
   have hsm := hz _ (List.getElem_mem hlt)
   by_cases hx : stepOk x.Steps[k] x.Steps.length = true
   ·have e1 := allTo_succ (p := stepOkN x.Steps.length) hA2 hlt hx
    go_wp2_with (first | (go_at_call 181; refine (validStep_calls x.Steps[k] x.Steps.length _ (hr.out.below ((Below.refl _ _).alloc (Nat.le_refl _) _)) (by omega) (by omega) hsm).mono ?_; rintro e w2 ⟨rfl, hb2⟩))
    go_roundw
    case rel => exact ⟨k + 1, by omega, by go_num, e1, (hbr.alloc hbr.size _).trans (hb2.mono (by simp; omega)), by have := hb2.size; simp at this; omega, by rw [hb2.cell (by simp; omega)]; go_simp⟩
    case measure => simp [intOf]; omega
   ·have e1 := Hid.mk' (show actionOk x = false by simp only [actionOk]; rw [allTo_not (p := stepOkN x.Steps.length) hlt (Bool.eq_false_iff.2 hx)]; simp)
    go_wp2_with (first | (go_at_call 181; refine (validStep_calls x.Steps[k] x.Steps.length _ (hr.out.below ((Below.refl _ _).alloc (Nat.le_refl _) _)) (by omega) (by omega) hsm).mono ?_; rintro e w2 ⟨rfl, hb2⟩))
    go_ret
    exact ⟨by rw [e1.out]; rfl, (hbr.alloc hbr.size _).trans (hb2.mono (by simp; omega))⟩
  ·obtain rfl : k = x.Steps.length := by omega
   have e1 := Hid.mk' (show actionOk x = true by simp only [actionOk, p1, p2, allTo_end hA2]; rfl)
   go_wp2
   go_ret
   exact ⟨by rw [e1.out]; rfl, hbr⟩

end Go.Proofs.YtkpkfihaihoaeaaGreatDoor.M
end
section
set_option linter.unusedVariables false
set_option linter.unusedSimpArgs false
namespace Go.Proofs.YtkpkfihaihoaeaaGreatDoor.M
open Go.RowKit

set_option maxRecDepth 100000 in
set_option maxHeartbeats 2000000 in
theorem follow_calls {tS tC tA : Nat} (x : Action) (at_ : Nat) (xs : List Answer) (v : Value) (w : World) {vs : List Value} (h : reps w (x.c tS tC) vs) (h' : rep w (AnswersT tA xs) v)
  (hat : at_ < x.Steps.length) (hlen : xs.length = x.Steps[at_].Asks.length) (hon : 0 < xs.length → 0 ≤ x.Steps[at_].On ∧ x.Steps[at_].On < xs.length) (hz : ∀ q ∈ x.Steps[at_].Asks, q.size ≤ 1000000) :
  Calls Tryz.prog 149 #[.agg vs.toArray, .int .i64 at_, v] w fun e w' => e = .returned (goneV (followS x.Steps[at_] xs)) ∧ Below w.heap.size w w' := by
 obtain ⟨v1, rfl, h1⟩ := Action.ropen h
 obtain ⟨A1, c1, rfl, _, hn1⟩ := rep_len h1
 obtain ⟨A2, c2, rfl, _, hn2⟩ := rep_len h'
 replace h1 := Asd.mk h1
 replace h' := Asd.mk h'
 clear h
 obtain ⟨W, hW⟩ : ∃ W : World, W = (w.alloc (.cells #[.int .i64 x.Cost, .slice A1 x.Steps.length c1] 111)).alloc (.cells #[.int .i64 0, .bool false, .int .i64 0, .string ⟨#[]⟩] 177) := ⟨_, rfl⟩
 have hb : Below w.heap.size w W := by rw [hW]; exact below_al (below_al (Below.refl _ _) _) _
 obtain ⟨a, d, v0, v2, he, k0, k1, k2, k3, k4, k5, k6, k7, g0, g2, hr⟩ := Step.elem (h1.out.below hb) hat
 rw [hW] at k0 k1 k2 k3 k4 k5 k6 k7
 cases he
 replace hW := Asd.mk hW
 generalize hs : x.Steps[at_] = s at *
 replace hs := Asd.mk hs
 obtain ⟨B0, b0, rfl, _, _⟩ := rep_len g0
 obtain ⟨B2, b2, rfl, _, _⟩ := rep_len g2
 replace g0 := Asd.mk g0
 replace g2 := Asd.mk g2
 replace hlen := Asd.mk hlen
 replace hon := Asd.mk hon
 replace hz := Asd.mk hz
 clear hr
 go_enter Tryz.func149, Tryz.ntmps149
 go_wp2
 obtain ⟨w3, hw3⟩ : ∃ w3 : World, w3 = ((w.alloc (.cells #[.int .i64 x.Cost, .slice (some a) x.Steps.length c1] 111)).alloc (.cells #[.int .i64 0, .bool false, .int .i64 0, .string ⟨#[]⟩] 177)).alloc (.cells #[.slice B0 s.Asks.length b0, .int .i64 s.On, .slice B2 s.Cases.length b2, .int .i64 s.Else, .int .i64 s.Fall, .bool s.End, .bool s.Bad, .string s.Give] 121) := ⟨_, rfl⟩
 have s3 : w3.heap.size = w.heap.size + 1 + 1 + 1 := by rw [hw3]; simp
 have hb3 : Below w.heap.size w w3 := by rw [hw3]; exact below_al (below_al (below_al (Below.refl _ _) _) _) _
 have r0 : w3.cell? ⟨w.heap.size + 1, 0, none⟩ = some (.int .i64 0) := by rw [hw3]; go_simp
 have r1 : w3.cell? ⟨w.heap.size + 1, 1, none⟩ = some (.bool false) := by rw [hw3]; go_simp
 have r2 : w3.cell? ⟨w.heap.size + 1, 2, none⟩ = some (.int .i64 0) := by rw [hw3]; go_simp
 have r3 : w3.cell? ⟨w.heap.size + 1, 3, none⟩ = some (.string ⟨#[]⟩) := by rw [hw3]; go_simp
 have f0 : ∀ o, w3.frozen? ⟨w.heap.size + 1, o, none⟩ = false := by intro o; rw [hw3]; go_simp
 have q0 : w3.cell? ⟨w.heap.size + 1 + 1, 0, none⟩ = some (.slice B0 s.Asks.length b0) := by rw [hw3]; go_simp
 have q1 : w3.cell? ⟨w.heap.size + 1 + 1, 1, none⟩ = some (.int .i64 s.On) := by rw [hw3]; go_simp
 have q2 : w3.cell? ⟨w.heap.size + 1 + 1, 2, none⟩ = some (.slice B2 s.Cases.length b2) := by rw [hw3]; go_simp
 have q3 : w3.cell? ⟨w.heap.size + 1 + 1, 3, none⟩ = some (.int .i64 s.Else) := by rw [hw3]; go_simp
 have q4 : w3.cell? ⟨w.heap.size + 1 + 1, 4, none⟩ = some (.int .i64 s.Fall) := by rw [hw3]; go_simp
 have hbW : Below W.heap.size W w3 := by rw [hw3, ← hW.out]; exact below_al (Below.refl _ _) _
 go_loopw [19] (fun i wr => ∃ k : Nat, k ≤ xs.length ∧ i = .int .i64 k ∧ noFail xs k ∧ Below w3.heap.size w3 wr) (fun i _ => xs.length - (intOf i).toNat)
 case atStart => exact ⟨0, by omega, rfl, noFail_zero _, by rw [hw3]; exact Below.refl _ _⟩
 case round =>
  clear hw3 k0 k1 k2 k3 k4 k5 k6 k7
  obtain ⟨k, hk, rfl, hA, hbr⟩ := hrel
  have hbw := below_st hb3 hbr
  obtain ⟨hcx, hfx⟩ := bcell hbr
  have z1 : w.heap.size + 1 < w3.heap.size := by omega
  have z2 : w.heap.size + 1 + 1 < w3.heap.size := by omega
  have z3 : w3.heap.size ≤ wr.heap.size := hbr.size
  have z4 : w.heap.size + 1 < wr.heap.size := by omega
  have z5 : w.heap.size + 1 + 1 < wr.heap.size := by omega
  by_cases hlt : k < xs.length
  ·obtain ⟨y, c', he, m0, m1, mr⟩ := Answer.elem (h'.out.below hbw) hlt
   cases he
   clear mr
   by_cases hx : xs[k].Fail = true
   ·by_cases hF : s.Fall < 0
    ·have e1 := Hid.mk' (follow_over (s := s) hA hlt hx hF (by rw [← hlen.out]; exact hlt))
     have hka : k < s.Asks.length := by rw [← hlen.out]; exact hlt
     obtain ⟨t, y, he, m3⟩ := str_elem (g0.out.below (below_al (below_st hbW hbr) (.cells #[.bool true, .string xs[k].Text] 102))) hka
     have hq := hz.out _ (List.getElem_mem hka)
     cases he
     go_wp2
     refine bodyPost_ret (v := .agg #[.int .i64 0, .bool true, .int .i64 0, .string (⟨#[98, 101, 108, 111, 119, 32]⟩ ++ s.Asks[k])]) (by simp [results, Tryz.results149, go_sem, *]) rfl ?_
     exact ⟨by rw [e1.out]; rfl, by repeat first|with_reducible (first|exact Below.refl _ _|exact hbw|refine below_al ?_ _|refine below_dr ?_ _|refine below_d1 ?_)|(with_reducible refine Below.setCell ?_ ?_ _;rotate_left;next => first|(simp;done)|(simp;omega)|omega)⟩
    ·have e1 := Hid.mk' (follow_fall (s := s) hA hlt hx hF)
     go_wp2
     refine bodyPost_ret (v := .agg #[.int .i64 0, .bool false, .int .i64 s.Fall, .string ⟨#[]⟩]) (by simp [results, Tryz.results149, go_sem, *]) rfl ?_
     exact ⟨by rw [e1.out]; rfl, by repeat first|with_reducible (first|exact Below.refl _ _|exact hbw|refine below_al ?_ _|refine below_dr ?_ _|refine below_d1 ?_)|(with_reducible refine Below.setCell ?_ ?_ _;rotate_left;next => first|(simp;done)|(simp;omega)|omega)⟩
   ·replace hx := Bool.eq_false_iff.2 hx
    have e1 := noFail_succ hA hlt hx
    go_wp2
    go_roundw
    case rel => exact ⟨k + 1, by omega, by go_num, e1, below_al hbr _⟩
    case measure => simp [intOf]; omega
  ·obtain rfl : k = xs.length := by omega
   have hN := Asd.mk hA
   clear hA hk hlt z3 z4 z5
   have e0 : xs.length = 0 → Hid (followS s xs = ⟨0, false, s.Else, ⟨#[]⟩⟩) := fun h0 => Hid.mk' (follow_else0 hN.out h0)
   by_cases h0 : 0 < xs.length
   ·obtain ⟨hon1, hon2⟩ := hon.out h0
    obtain ⟨o, ho⟩ : ∃ o : Nat, s.On = o := ⟨s.On.toNat, by omega⟩
    have hol : o < xs.length := by omega
    have hot : onText s xs = xs[o].Text := by simp [onText, ho, List.getD_eq_getElem?_getD, hol]
    clear e0
    obtain ⟨w4, hw4⟩ : ∃ w4 : World, w4 = wr := ⟨_, rfl⟩
    subst hw4
    have z4 : w.heap.size + 1 < w4.heap.size := by have := hbr.size; omega
    have z5 : w.heap.size + 1 + 1 < w4.heap.size := by have := hbr.size; omega
    go_wp2
    replace hcx := Asd.mk hcx
    replace hfx := Asd.mk hfx
    go_loopw [46] (fun i wr => ∃ k : Nat, k ≤ s.Cases.length ∧ i = .int .i64 k ∧ noCase xs[o].Text s.Cases k ∧ Below w4.heap.size w4 wr) (fun i _ => s.Cases.length - (intOf i).toNat)
    case atStart => exact ⟨0, by omega, rfl, noCase_zero _ _, Below.refl _ _⟩
    case round =>
     obtain ⟨k, hk, rfl, hA, hbq⟩ := hrel
     have hbq3 := below_st hbr hbq
     have hbwq := below_st hbw hbq
     obtain ⟨hcq, hfq⟩ := bcell hbq3
     have z6 : w4.heap.size ≤ wr.heap.size := hbq.size
     have z7 : w.heap.size + 1 < wr.heap.size := by omega
     have z8 : w.heap.size + 1 + 1 < wr.heap.size := by omega
     by_cases hlt : k < s.Cases.length
     ·obtain ⟨y, c', he, m0, m1, mr⟩ := Case.elem (g2.out.below (below_st hbW hbq3)) hlt
      cases he
      clear mr
      obtain ⟨u, c', he, n0, n1, nr⟩ := Answer.elem (h'.out.below (below_al hbwq (.cells #[.string s.Cases[k].Text, .int .i64 s.Cases[k].Goto] 213))) hol
      cases he
      clear nr n0
      have i0 : ((o : Int) : Int) < (xs.length : Int) := by omega
      by_cases hx : caseIs xs[o].Text s.Cases[k] = true
      ·have e1 := Hid.mk' (follow_goto hN.out h0 (by rw [hot]; exact hA) hlt (by rw [hot]; exact hx))
       have hx' : (s.Cases[k].Text.toList == xs[o].Text.toList) = true := hx
       go_wp2
       go_quiet (fail)
       go_wp2
       refine bodyPost_ret (v := .agg #[.int .i64 0, .bool false, .int .i64 s.Cases[k].Goto, .string ⟨#[]⟩]) (by simp [results, Tryz.results149, go_sem, *]) rfl ?_
       exact ⟨by rw [e1.out]; rfl, by repeat first|with_reducible (first|exact Below.refl _ _|exact hbwq|refine below_al ?_ _|refine below_dr ?_ _|refine below_d1 ?_)|(with_reducible refine Below.setCell ?_ ?_ _;rotate_left;next => first|(simp;done)|(simp;omega)|omega)⟩
      ·replace hx := Bool.eq_false_iff.2 hx
       have e1 := noCase_succ hA hlt hx
       have hx' : (s.Cases[k].Text.toList == xs[o].Text.toList) = false := hx
       go_wp2
       go_quiet (fail)
       go_wp2
       go_roundw
       case rel => exact ⟨k + 1, by omega, by go_num, e1, below_dr (below_al hbq _) _⟩
       case measure => simp [intOf]; omega
     ·obtain rfl : k = s.Cases.length := by omega
      have e1 := Hid.mk' (follow_else hN.out (by rw [hot]; exact hA))
      go_wp2
      refine bodyPost_ret (v := .agg #[.int .i64 0, .bool false, .int .i64 s.Else, .string ⟨#[]⟩]) (by simp [results, Tryz.results149, go_sem, *]) rfl ?_
      exact ⟨by rw [e1.out]; rfl, by repeat first|with_reducible (first|exact Below.refl _ _|exact hbwq|refine below_al ?_ _|refine below_dr ?_ _|refine below_d1 ?_)|(with_reducible refine Below.setCell ?_ ?_ _;rotate_left;next => first|(simp;done)|(simp;omega)|omega)⟩
   ·have e1 := e0 (by omega)
    have z4 : w.heap.size + 1 < wr.heap.size := by have := hbr.size; omega
    have z5 : w.heap.size + 1 + 1 < wr.heap.size := by have := hbr.size; omega
    go_wp2
    refine bodyPost_ret (v := .agg #[.int .i64 0, .bool false, .int .i64 s.Else, .string ⟨#[]⟩]) (by simp [results, Tryz.results149, go_sem, *]) rfl ?_
    exact ⟨by rw [e1.out]; rfl, by repeat first|with_reducible (first|exact Below.refl _ _|exact hbw|refine below_al ?_ _|refine below_dr ?_ _|refine below_d1 ?_)|(with_reducible refine Below.setCell ?_ ?_ _;rotate_left;next => first|(simp;done)|(simp;omega)|omega)⟩

end Go.Proofs.YtkpkfihaihoaeaaGreatDoor.M
end
section
set_option linter.unusedVariables false
set_option linter.unusedSimpArgs false
namespace Go.Proofs.YtkpkfihaihoaeaaGreatDoor.M
open Go.RowKit

theorem follow_none {s : Step} {xs : List Answer} (h : noFail xs xs.length) (hx : ¬0 < xs.length) : followS s xs = ⟨0, false, s.Else, ⟨#[]⟩⟩ := follow_else0 h (by omega)
set_option maxRecDepth 100000 in
set_option maxHeartbeats 2000000 in
theorem sGoOn_calls {tS tC tA : Nat} (x : Action) (at_ : Int) (xs : List Answer) (v : Value) (w : World) {vs : List Value} (h : reps w (x.c tS tC) vs) (h' : rep w (AnswersT tA xs) v) (hz : x.Sm) (hy : ∀ y ∈ xs, y.Text.size ≤ 9223372036854775807) :
  Calls Tryz.prog 162 #[.agg vs.toArray, .int .i64 at_, v] w fun e w' => e = .returned (goneV (goOn x at_ xs)) ∧ Below w.heap.size w w' := by
 obtain ⟨v1, rfl, h1⟩ := Action.ropen h
 obtain ⟨A1, c1, rfl, _, hn1⟩ := rep_len h1
 obtain ⟨A2, c2, rfl, _, hn2⟩ := rep_len h'
 replace h1 := Asd.mk h1
 replace h' := Asd.mk h'
 replace hy := Asd.mk hy
 clear h
 by_cases p1 : actionOk x = true
 rotate_left
 ·replace p1 := Bool.eq_false_iff.2 p1
  have e1 := Hid.mk' (goOn_bad (at_ := at_) (xs := xs) p1)
  go_enter Tryz.func162, Tryz.ntmps162
  go_wp2_with (fail)
  refine (sValidAction_calls x _ (Action.rmk _ (h1.out.below (below_al (below_al (Below.refl _ _) _) _))) hz).mono ?_
  rintro e w2 ⟨rfl, hb2⟩
  obtain ⟨W, hW⟩ : ∃ W : World, W = (w.alloc (.cells #[.int .i64 x.Cost, .slice A1 x.Steps.length c1] 111)).alloc (.cells #[.int .i64 0, .bool false, .int .i64 0, .string ⟨#[]⟩] 177) := ⟨_, rfl⟩
  rw [← hW] at hb2
  have sW : W.heap.size = w.heap.size + 1 + 1 := by rw [hW]; simp
  have hbW : Below w.heap.size w W := by rw [hW]; exact below_al (below_al (Below.refl _ _) _) _
  have a0 : w2.cell? ⟨w.heap.size, 0, none⟩ = some (.int .i64 x.Cost) := by rw [hb2.cell (by simp; omega), hW]; go_simp
  have a1 : w2.cell? ⟨w.heap.size, 1, none⟩ = some (.slice A1 x.Steps.length c1) := by rw [hb2.cell (by simp; omega), hW]; go_simp
  have r0 : w2.cell? ⟨w.heap.size + 1, 0, none⟩ = some (.int .i64 0) := by rw [hb2.cell (by simp; omega), hW]; go_simp
  have r1 : w2.cell? ⟨w.heap.size + 1, 1, none⟩ = some (.bool false) := by rw [hb2.cell (by simp; omega), hW]; go_simp
  have r2 : w2.cell? ⟨w.heap.size + 1, 2, none⟩ = some (.int .i64 0) := by rw [hb2.cell (by simp; omega), hW]; go_simp
  have r3 : w2.cell? ⟨w.heap.size + 1, 3, none⟩ = some (.string ⟨#[]⟩) := by rw [hb2.cell (by simp; omega), hW]; go_simp
  have f0 : ∀ o, w2.frozen? ⟨w.heap.size + 1, o, none⟩ = false := by intro o; rw [hb2.frozen (by simp; omega), hW]; go_simp
  have hbw := below_st hbW hb2
  have z1 : w.heap.size < w2.heap.size := by have := hb2.size; omega
  have z2 : w.heap.size + 1 < w2.heap.size := by have := hb2.size; omega
  clear hW
  go_wp2
  refine bodyPost_ret (v := .agg #[.int .i64 1, .bool false, .int .i64 0, .string ⟨#[]⟩]) (by simp [results, Tryz.results162, go_sem, *]) rfl ?_
  exact ⟨by rw [e1.out]; rfl, by repeat first|with_reducible (first|exact Below.refl _ _|exact hbw|refine below_al ?_ _|refine below_dr ?_ _|refine below_d1 ?_)|(with_reducible refine Below.setCell ?_ ?_ _;rotate_left;next => first|(simp;done)|(simp;omega)|omega)⟩
 by_cases p2 : inB at_ 0 (x.Steps.length - 1) = true
 rotate_left
 ·replace p2 := Bool.eq_false_iff.2 p2
  have e1 := Hid.mk' (goOn_out (xs := xs) p2)
  go_enter Tryz.func162, Tryz.ntmps162
  go_wp2_with (fail)
  refine (sValidAction_calls x _ (Action.rmk _ (h1.out.below (below_al (below_al (Below.refl _ _) _) _))) hz).mono ?_
  rintro e w2 ⟨rfl, hb2⟩
  obtain ⟨W, hW⟩ : ∃ W : World, W = (w.alloc (.cells #[.int .i64 x.Cost, .slice A1 x.Steps.length c1] 111)).alloc (.cells #[.int .i64 0, .bool false, .int .i64 0, .string ⟨#[]⟩] 177) := ⟨_, rfl⟩
  rw [← hW] at hb2
  have sW : W.heap.size = w.heap.size + 1 + 1 := by rw [hW]; simp
  have hbW : Below w.heap.size w W := by rw [hW]; exact below_al (below_al (Below.refl _ _) _) _
  have a0 : w2.cell? ⟨w.heap.size, 0, none⟩ = some (.int .i64 x.Cost) := by rw [hb2.cell (by simp; omega), hW]; go_simp
  have a1 : w2.cell? ⟨w.heap.size, 1, none⟩ = some (.slice A1 x.Steps.length c1) := by rw [hb2.cell (by simp; omega), hW]; go_simp
  have r0 : w2.cell? ⟨w.heap.size + 1, 0, none⟩ = some (.int .i64 0) := by rw [hb2.cell (by simp; omega), hW]; go_simp
  have r1 : w2.cell? ⟨w.heap.size + 1, 1, none⟩ = some (.bool false) := by rw [hb2.cell (by simp; omega), hW]; go_simp
  have r2 : w2.cell? ⟨w.heap.size + 1, 2, none⟩ = some (.int .i64 0) := by rw [hb2.cell (by simp; omega), hW]; go_simp
  have r3 : w2.cell? ⟨w.heap.size + 1, 3, none⟩ = some (.string ⟨#[]⟩) := by rw [hb2.cell (by simp; omega), hW]; go_simp
  have f0 : ∀ o, w2.frozen? ⟨w.heap.size + 1, o, none⟩ = false := by intro o; rw [hb2.frozen (by simp; omega), hW]; go_simp
  have hbw := below_st hbW hb2
  have z1 : w.heap.size < w2.heap.size := by have := hb2.size; omega
  have z2 : w.heap.size + 1 < w2.heap.size := by have := hb2.size; omega
  clear hW
  go_wp2_with (first | (go_at_call 113; refine (l1In_calls _ _ _ _).mono ?_; rintro e w' ⟨rfl, rfl⟩))
  refine bodyPost_ret (v := .agg #[.int .i64 1, .bool false, .int .i64 0, .string ⟨#[]⟩]) (by simp [results, Tryz.results162, go_sem, *]) rfl ?_
  exact ⟨by rw [e1.out]; rfl, by repeat first|with_reducible (first|exact Below.refl _ _|exact hbw|refine below_al ?_ _|refine below_dr ?_ _|refine below_d1 ?_)|(with_reducible refine Below.setCell ?_ ?_ _;rotate_left;next => first|(simp;done)|(simp;omega)|omega)⟩
 obtain ⟨n, rfl⟩ : ∃ n : Nat, at_ = n := ⟨at_.toNat, by simp [inB] at p2; omega⟩
 have hn : n < x.Steps.length := by simp [inB] at p2; omega
 have i1 : (0 : Int) ≤ (n : Int) := by omega
 have i2 : (n : Int) < (x.Steps.length : Int) := by omega
 by_cases p3 : x.Steps[n].End = true
 ·have e1 := Hid.mk' (goOn_end (xs := xs) hn p3)
  go_enter Tryz.func162, Tryz.ntmps162
  go_wp2_with (fail)
  refine (sValidAction_calls x _ (Action.rmk _ (h1.out.below (below_al (below_al (Below.refl _ _) _) _))) hz).mono ?_
  rintro e w2 ⟨rfl, hb2⟩
  obtain ⟨W, hW⟩ : ∃ W : World, W = (w.alloc (.cells #[.int .i64 x.Cost, .slice A1 x.Steps.length c1] 111)).alloc (.cells #[.int .i64 0, .bool false, .int .i64 0, .string ⟨#[]⟩] 177) := ⟨_, rfl⟩
  rw [← hW] at hb2
  have sW : W.heap.size = w.heap.size + 1 + 1 := by rw [hW]; simp
  have hbW : Below w.heap.size w W := by rw [hW]; exact below_al (below_al (Below.refl _ _) _) _
  have a0 : w2.cell? ⟨w.heap.size, 0, none⟩ = some (.int .i64 x.Cost) := by rw [hb2.cell (by simp; omega), hW]; go_simp
  have a1 : w2.cell? ⟨w.heap.size, 1, none⟩ = some (.slice A1 x.Steps.length c1) := by rw [hb2.cell (by simp; omega), hW]; go_simp
  have r0 : w2.cell? ⟨w.heap.size + 1, 0, none⟩ = some (.int .i64 0) := by rw [hb2.cell (by simp; omega), hW]; go_simp
  have r1 : w2.cell? ⟨w.heap.size + 1, 1, none⟩ = some (.bool false) := by rw [hb2.cell (by simp; omega), hW]; go_simp
  have r2 : w2.cell? ⟨w.heap.size + 1, 2, none⟩ = some (.int .i64 0) := by rw [hb2.cell (by simp; omega), hW]; go_simp
  have r3 : w2.cell? ⟨w.heap.size + 1, 3, none⟩ = some (.string ⟨#[]⟩) := by rw [hb2.cell (by simp; omega), hW]; go_simp
  have f0 : ∀ o, w2.frozen? ⟨w.heap.size + 1, o, none⟩ = false := by intro o; rw [hb2.frozen (by simp; omega), hW]; go_simp
  have hbw := below_st hbW hb2
  have z1 : w.heap.size < w2.heap.size := by have := hb2.size; omega
  have z2 : w.heap.size + 1 < w2.heap.size := by have := hb2.size; omega
  clear hW
  obtain ⟨a, d, v0, v2, he, k0, k1, k2, k3, k4, k5, k6, k7, g0, g2, mr⟩ := Step.elem (h1.out.below hbw) hn
  cases he
  obtain ⟨B0, b0, rfl, _, _⟩ := rep_len g0
  obtain ⟨B2, b2, rfl, _, _⟩ := rep_len g2
  replace g0 := Asd.mk g0
  replace g2 := Asd.mk g2
  clear mr
  go_wp2_with (first | (go_at_call 113; refine (l1In_calls _ _ _ _).mono ?_; rintro e w' ⟨rfl, rfl⟩))
  refine bodyPost_ret (v := .agg #[.int .i64 1, .bool false, .int .i64 0, .string ⟨#[]⟩]) (by simp [results, Tryz.results162, go_sem, *]) rfl ?_
  exact ⟨by rw [e1.out]; rfl, by repeat first|with_reducible (first|exact Below.refl _ _|exact hbw|refine below_al ?_ _|refine below_dr ?_ _|refine below_d1 ?_)|(with_reducible refine Below.setCell ?_ ?_ _;rotate_left;next => first|(simp;done)|(simp;omega)|omega)⟩
 replace p3 := Bool.eq_false_iff.2 p3
 by_cases p4 : xs.length = x.Steps[n].Asks.length
 rotate_left
 ·have e1 := Hid.mk' (goOn_len (xs := xs) hn p4)
  have i3 : ¬((xs.length : Int) = (x.Steps[n].Asks.length : Int)) := by omega
  go_enter Tryz.func162, Tryz.ntmps162
  go_wp2_with (fail)
  refine (sValidAction_calls x _ (Action.rmk _ (h1.out.below (below_al (below_al (Below.refl _ _) _) _))) hz).mono ?_
  rintro e w2 ⟨rfl, hb2⟩
  obtain ⟨W, hW⟩ : ∃ W : World, W = (w.alloc (.cells #[.int .i64 x.Cost, .slice A1 x.Steps.length c1] 111)).alloc (.cells #[.int .i64 0, .bool false, .int .i64 0, .string ⟨#[]⟩] 177) := ⟨_, rfl⟩
  rw [← hW] at hb2
  have sW : W.heap.size = w.heap.size + 1 + 1 := by rw [hW]; simp
  have hbW : Below w.heap.size w W := by rw [hW]; exact below_al (below_al (Below.refl _ _) _) _
  have a0 : w2.cell? ⟨w.heap.size, 0, none⟩ = some (.int .i64 x.Cost) := by rw [hb2.cell (by simp; omega), hW]; go_simp
  have a1 : w2.cell? ⟨w.heap.size, 1, none⟩ = some (.slice A1 x.Steps.length c1) := by rw [hb2.cell (by simp; omega), hW]; go_simp
  have r0 : w2.cell? ⟨w.heap.size + 1, 0, none⟩ = some (.int .i64 0) := by rw [hb2.cell (by simp; omega), hW]; go_simp
  have r1 : w2.cell? ⟨w.heap.size + 1, 1, none⟩ = some (.bool false) := by rw [hb2.cell (by simp; omega), hW]; go_simp
  have r2 : w2.cell? ⟨w.heap.size + 1, 2, none⟩ = some (.int .i64 0) := by rw [hb2.cell (by simp; omega), hW]; go_simp
  have r3 : w2.cell? ⟨w.heap.size + 1, 3, none⟩ = some (.string ⟨#[]⟩) := by rw [hb2.cell (by simp; omega), hW]; go_simp
  have f0 : ∀ o, w2.frozen? ⟨w.heap.size + 1, o, none⟩ = false := by intro o; rw [hb2.frozen (by simp; omega), hW]; go_simp
  have hbw := below_st hbW hb2
  have z1 : w.heap.size < w2.heap.size := by have := hb2.size; omega
  have z2 : w.heap.size + 1 < w2.heap.size := by have := hb2.size; omega
  clear hW
  obtain ⟨a, d, v0, v2, he, k0, k1, k2, k3, k4, k5, k6, k7, g0, g2, mr⟩ := Step.elem (h1.out.below hbw) hn
  cases he
  obtain ⟨B0, b0, rfl, _, _⟩ := rep_len g0
  obtain ⟨B2, b2, rfl, _, _⟩ := rep_len g2
  replace g0 := Asd.mk g0
  replace g2 := Asd.mk g2
  clear mr
  go_wp2_with (first | (go_at_call 113; refine (l1In_calls _ _ _ _).mono ?_; rintro e w' ⟨rfl, rfl⟩))
  refine bodyPost_ret (v := .agg #[.int .i64 1, .bool false, .int .i64 0, .string ⟨#[]⟩]) (by simp [results, Tryz.results162, go_sem, *]) rfl ?_
  exact ⟨by rw [e1.out]; rfl, by repeat first|with_reducible (first|exact Below.refl _ _|exact hbw|refine below_al ?_ _|refine below_dr ?_ _|refine below_d1 ?_)|(with_reducible refine Below.setCell ?_ ?_ _;rotate_left;next => first|(simp;done)|(simp;omega)|omega)⟩
 go_enter Tryz.func162, Tryz.ntmps162
 go_wp2_with (fail)
 refine (sValidAction_calls x _ (Action.rmk _ (h1.out.below (below_al (below_al (Below.refl _ _) _) _))) hz).mono ?_
 rintro e w2 ⟨rfl, hb2⟩
 obtain ⟨W, hW⟩ : ∃ W : World, W = (w.alloc (.cells #[.int .i64 x.Cost, .slice A1 x.Steps.length c1] 111)).alloc (.cells #[.int .i64 0, .bool false, .int .i64 0, .string ⟨#[]⟩] 177) := ⟨_, rfl⟩
 rw [← hW] at hb2
 have sW : W.heap.size = w.heap.size + 1 + 1 := by rw [hW]; simp
 have hbW : Below w.heap.size w W := by rw [hW]; exact below_al (below_al (Below.refl _ _) _) _
 have a0 : w2.cell? ⟨w.heap.size, 0, none⟩ = some (.int .i64 x.Cost) := by rw [hb2.cell (by simp; omega), hW]; go_simp
 have a1 : w2.cell? ⟨w.heap.size, 1, none⟩ = some (.slice A1 x.Steps.length c1) := by rw [hb2.cell (by simp; omega), hW]; go_simp
 have r0 : w2.cell? ⟨w.heap.size + 1, 0, none⟩ = some (.int .i64 0) := by rw [hb2.cell (by simp; omega), hW]; go_simp
 have r1 : w2.cell? ⟨w.heap.size + 1, 1, none⟩ = some (.bool false) := by rw [hb2.cell (by simp; omega), hW]; go_simp
 have r2 : w2.cell? ⟨w.heap.size + 1, 2, none⟩ = some (.int .i64 0) := by rw [hb2.cell (by simp; omega), hW]; go_simp
 have r3 : w2.cell? ⟨w.heap.size + 1, 3, none⟩ = some (.string ⟨#[]⟩) := by rw [hb2.cell (by simp; omega), hW]; go_simp
 have f0 : ∀ o, w2.frozen? ⟨w.heap.size + 1, o, none⟩ = false := by intro o; rw [hb2.frozen (by simp; omega), hW]; go_simp
 have hbw := below_st hbW hb2
 have z1 : w.heap.size < w2.heap.size := by have := hb2.size; omega
 have z2 : w.heap.size + 1 < w2.heap.size := by have := hb2.size; omega
 clear hW
 obtain ⟨a, d, v0, v2, he, k0, k1, k2, k3, k4, k5, k6, k7, g0, g2, mr⟩ := Step.elem (h1.out.below hbw) hn
 cases he
 obtain ⟨B0, b0, rfl, _, _⟩ := rep_len g0
 obtain ⟨B2, b2, rfl, _, _⟩ := rep_len g2
 replace g0 := Asd.mk g0
 replace g2 := Asd.mk g2
 clear mr
 go_wp2_with (first | (go_at_call 113; refine (l1In_calls _ _ _ _).mono ?_; rintro e w' ⟨rfl, rfl⟩))
 have on1 := Asd.mk (step_on p1 hn p3 p4)
 have as1 := Asd.mk (step_asks p1 hn p3)
 have fl1 := step_fall p1 hn p3
 obtain ⟨w3, hw3⟩ : ∃ w3 : World, w3 = w2.alloc (.cells #[.slice B0 x.Steps[n].Asks.length b0, .int .i64 x.Steps[n].On, .slice B2 x.Steps[n].Cases.length b2, .int .i64 x.Steps[n].Else, .int .i64 x.Steps[n].Fall, .bool false, .bool x.Steps[n].Bad, .string x.Steps[n].Give] 121) := ⟨_, rfl⟩
 have s3 : w3.heap.size = w2.heap.size + 1 := by rw [hw3]; simp
 have hb3 : Below w2.heap.size w2 w3 := by rw [hw3]; exact below_al (Below.refl _ _) _
 have q0 : w3.cell? ⟨w2.heap.size, 0, none⟩ = some (.slice B0 x.Steps[n].Asks.length b0) := by rw [hw3]; go_simp
 have q1 : w3.cell? ⟨w2.heap.size, 1, none⟩ = some (.int .i64 x.Steps[n].On) := by rw [hw3]; go_simp
 have q2 : w3.cell? ⟨w2.heap.size, 2, none⟩ = some (.slice B2 x.Steps[n].Cases.length b2) := by rw [hw3]; go_simp
 have q3 : w3.cell? ⟨w2.heap.size, 3, none⟩ = some (.int .i64 x.Steps[n].Else) := by rw [hw3]; go_simp
 have q4 : w3.cell? ⟨w2.heap.size, 4, none⟩ = some (.int .i64 x.Steps[n].Fall) := by rw [hw3]; go_simp
 obtain ⟨hcx, hfx⟩ := bcell hb3
 replace r0 : w3.cell? ⟨w.heap.size + 1, 0, none⟩ = some (.int .i64 0) := by rw [hcx _ _ z2]; exact r0
 replace r1 : w3.cell? ⟨w.heap.size + 1, 1, none⟩ = some (.bool false) := by rw [hcx _ _ z2]; exact r1
 replace r2 : w3.cell? ⟨w.heap.size + 1, 2, none⟩ = some (.int .i64 0) := by rw [hcx _ _ z2]; exact r2
 replace r3 : w3.cell? ⟨w.heap.size + 1, 3, none⟩ = some (.string ⟨#[]⟩) := by rw [hcx _ _ z2]; exact r3
 replace f0 : ∀ o, w3.frozen? ⟨w.heap.size + 1, o, none⟩ = false := by intro o; rw [hfx _ _ z2]; exact f0 o
 have hbz := below_st hbw hb3
 replace g0 := Asd.mk (g0.out.below hb3)
 replace g2 := Asd.mk (g2.out.below hb3)
 replace h' := Asd.mk (h'.out.below hbz)
 clear k0 k1 k2 k3 k4 k5 k6 k7 a0 a1 hb2 hcx hfx hb3 hbw
 go_loopw [8] (fun i wr => ∃ k : Nat, k ≤ xs.length ∧ i = .int .i64 k ∧ allTo textOk xs k ∧ Below w3.heap.size w3 wr) (fun i _ => xs.length - (intOf i).toNat)
 case atStart => exact ⟨0, by omega, rfl, allTo_zero _ _, by rw [hw3]; exact Below.refl _ _⟩
 case round =>
  clear hw3
  have z3 : w2.heap.size < w3.heap.size := by omega
  have z4 : w.heap.size + 1 < w3.heap.size := by omega
  obtain ⟨k, hk, rfl, hA, hbr⟩ := hrel
  obtain ⟨hcx, hfx⟩ := bcell hbr
  have z5 : w2.heap.size < wr.heap.size := by have := hbr.size; omega
  have z6 : w.heap.size + 1 < wr.heap.size := by have := hbr.size; omega
  have hbq := below_st hbz hbr
  by_cases hlt : k < xs.length
  ·obtain ⟨y, c', he, m0, m1, mr⟩ := Answer.elem (h'.out.below hbr) hlt
   have hq := hy.out _ (List.getElem_mem hlt)
   rw [p4] at he
   cases he
   clear mr
   by_cases hx : xs[k].Text.size ≤ 200
   ·have e1 := allTo_succ (p := textOk) hA hlt (by simp [textOk, hx])
    have i4 : ¬((200 : Int) < (xs[k].Text.size : Int)) := by omega
    go_wp2
    go_roundw
    case rel => exact ⟨k + 1, by omega, by go_num, e1, hbr⟩
    case measure => simp [intOf]; omega
   ·have e1 := Hid.mk' (goOn_text (a := x) (n := n) (textOk_no hlt hx))
    have i4 : ((200 : Int) < (xs[k].Text.size : Int)) := by omega
    go_wp2
    refine bodyPost_ret (v := .agg #[.int .i64 1, .bool false, .int .i64 0, .string ⟨#[]⟩]) (by simp [results, Tryz.results162, go_sem, *]) rfl ?_
    exact ⟨by rw [e1.out]; rfl, by repeat first|with_reducible (first|exact Below.refl _ _|exact hbq|refine below_al ?_ _|refine below_dr ?_ _|refine below_d1 ?_)|(with_reducible refine Below.setCell ?_ ?_ _;rotate_left;next => first|(simp;done)|(simp;omega)|omega)⟩
  ·obtain rfl : k = xs.length := by omega
   have E1 := Asd.mk (goOn_yes hn p1 p2 p3 p4 (allTo_end hA))
   clear hA hlt hk hcx hfx
   obtain ⟨wo, hwo⟩ : ∃ wo : World, wo = wr := ⟨_, rfl⟩
   subst hwo
   go_wp2
   go_loopw [9] (fun i wr => ∃ k : Nat, k ≤ xs.length ∧ i = .int .i64 k ∧ noFail xs k ∧ Below w3.heap.size w3 wr) (fun i _ => xs.length - (intOf i).toNat)
   case atStart => exact ⟨0, by omega, rfl, noFail_zero _, hbr⟩
   case round =>
    clear hbr z5 z6 hbq
    obtain ⟨k, hk, rfl, hA, hbr⟩ := hrel
    obtain ⟨hcx, hfx⟩ := bcell hbr
    have z5 : w2.heap.size < wr.heap.size := by have := hbr.size; omega
    have z6 : w.heap.size + 1 < wr.heap.size := by have := hbr.size; omega
    have hbq := below_st hbz hbr
    by_cases hlt : k < xs.length
    ·obtain ⟨y, c', he, m0, m1, mr⟩ := Answer.elem (h'.out.below hbr) hlt
     rw [p4] at he
     cases he
     clear mr
     have hka : k < x.Steps[n].Asks.length := by omega
     by_cases hx : xs[k].Fail = true
     ·by_cases hF : x.Steps[n].Fall = -1
      ·have e1 := Hid.mk' (follow_over (s := x.Steps[n]) hA hlt hx (by omega) hka)
       obtain ⟨t, y, he, m3⟩ := str_elem (g0.out.below hbr) hka
       have hq := as1.out _ (List.getElem_mem hka)
       cases he
       go_wp2
       refine bodyPost_ret (v := .agg #[.int .i64 0, .bool true, .int .i64 0, .string (⟨#[98, 101, 108, 111, 119, 32]⟩ ++ x.Steps[n].Asks[k])]) (by simp [results, Tryz.results162, go_sem, *]) rfl ?_
       exact ⟨by rw [E1.out, e1.out]; rfl, by repeat first|with_reducible (first|exact Below.refl _ _|exact hbq|refine below_al ?_ _|refine below_dr ?_ _|refine below_d1 ?_)|(with_reducible refine Below.setCell ?_ ?_ _;rotate_left;next => first|(simp;done)|(simp;omega)|omega)⟩
      ·have e1 := Hid.mk' (follow_fall (s := x.Steps[n]) hA hlt hx (by omega))
       go_wp2
       refine bodyPost_ret (v := .agg #[.int .i64 0, .bool false, .int .i64 x.Steps[n].Fall, .string ⟨#[]⟩]) (by simp [results, Tryz.results162, go_sem, *]) rfl ?_
       exact ⟨by rw [E1.out, e1.out]; rfl, by repeat first|with_reducible (first|exact Below.refl _ _|exact hbq|refine below_al ?_ _|refine below_dr ?_ _|refine below_d1 ?_)|(with_reducible refine Below.setCell ?_ ?_ _;rotate_left;next => first|(simp;done)|(simp;omega)|omega)⟩
     ·replace hx := Bool.eq_false_iff.2 hx
      have e1 := noFail_succ hA hlt hx
      go_wp2
      go_roundw
      case rel => exact ⟨k + 1, by omega, by go_num, e1, hbr⟩
      case measure => simp [intOf]; omega
    ·obtain rfl : k = xs.length := by omega
     have hN := Asd.mk hA
     clear hA hlt hk
     by_cases h0 : 0 < xs.length
     ·obtain ⟨hon1, hon2⟩ := on1.out h0
      obtain ⟨o, ho⟩ : ∃ o : Nat, x.Steps[n].On = o := ⟨x.Steps[n].On.toNat, by omega⟩
      have hol : o < xs.length := by omega
      have hot : onText x.Steps[n] xs = xs[o].Text := by simp [onText, ho, List.getD_eq_getElem?_getD, hol]
      have i0 : ¬((xs.length : Int) = 0) := by omega
      have i1' : ¬((x.Steps[n].Asks.length : Int) = 0) := by omega
      clear hcx hfx
      obtain ⟨wo, hwo⟩ : ∃ wo : World, wo = wr := ⟨_, rfl⟩
      subst hwo
      go_wp2
      go_loopw [10] (fun i wr => ∃ k : Nat, k ≤ x.Steps[n].Cases.length ∧ i = .int .i64 k ∧ noCase xs[o].Text x.Steps[n].Cases k ∧ Below w3.heap.size w3 wr) (fun i _ => x.Steps[n].Cases.length - (intOf i).toNat)
      case atStart => exact ⟨0, by omega, rfl, noCase_zero _ _, hbr⟩
      case round =>
       clear hbr z5 z6 hbq
       obtain ⟨k, hk, rfl, hA, hbr⟩ := hrel
       obtain ⟨hcx, hfx⟩ := bcell hbr
       have z5 : w2.heap.size < wr.heap.size := by have := hbr.size; omega
       have z6 : w.heap.size + 1 < wr.heap.size := by have := hbr.size; omega
       have hbq := below_st hbz hbr
       by_cases hlt : k < x.Steps[n].Cases.length
       ·obtain ⟨y, c', he, m0, m1, mr⟩ := Case.elem (g2.out.below hbr) hlt
        cases he
        clear mr
        obtain ⟨u, c', he, n0, n1, nr⟩ := Answer.elem (h'.out.below hbr) hol
        rw [p4] at he
        cases he
        clear nr n0
        have i5 : ((o : Int) : Int) < (xs.length : Int) := by omega
        have i6 : ((o : Int) : Int) < (x.Steps[n].Asks.length : Int) := by omega
        have i7 : (0 : Int) ≤ (o : Int) := by omega
        by_cases hx : caseIs xs[o].Text x.Steps[n].Cases[k] = true
        ·have e1 := Hid.mk' (follow_goto hN.out h0 (by rw [hot]; exact hA) hlt (by rw [hot]; exact hx))
         have hx' : (x.Steps[n].Cases[k].Text.toList == xs[o].Text.toList) = true := hx
         go_wp2
         go_quiet (fail)
         go_wp2
         refine bodyPost_ret (v := .agg #[.int .i64 0, .bool false, .int .i64 x.Steps[n].Cases[k].Goto, .string ⟨#[]⟩]) (by simp [results, Tryz.results162, go_sem, *]) rfl ?_
         exact ⟨by rw [E1.out, e1.out]; rfl, by repeat first|with_reducible (first|exact Below.refl _ _|exact hbq|refine below_al ?_ _|refine below_dr ?_ _|refine below_d1 ?_)|(with_reducible refine Below.setCell ?_ ?_ _;rotate_left;next => first|(simp;done)|(simp;omega)|omega)⟩
        ·replace hx := Bool.eq_false_iff.2 hx
         have e1 := noCase_succ hA hlt hx
         have hx' : (x.Steps[n].Cases[k].Text.toList == xs[o].Text.toList) = false := hx
         go_wp2
         go_quiet (fail)
         go_wp2
         go_roundw
         case rel => exact ⟨k + 1, by omega, by go_num, e1, below_dr hbr _⟩
         case measure => simp [intOf]; omega
       ·obtain rfl : k = x.Steps[n].Cases.length := by omega
        have e1 := Hid.mk' (follow_else hN.out (by rw [hot]; exact hA))
        go_wp2
        refine bodyPost_ret (v := .agg #[.int .i64 0, .bool false, .int .i64 x.Steps[n].Else, .string ⟨#[]⟩]) (by simp [results, Tryz.results162, go_sem, *]) rfl ?_
        exact ⟨by rw [E1.out, e1.out]; rfl, by repeat first|with_reducible (first|exact Below.refl _ _|exact hbq|refine below_al ?_ _|refine below_dr ?_ _|refine below_d1 ?_)|(with_reducible refine Below.setCell ?_ ?_ _;rotate_left;next => first|(simp;done)|(simp;omega)|omega)⟩
     ·have e1 := Hid.mk' (follow_none (s := x.Steps[n]) hN.out h0)
      have i0 : ((xs.length : Int) = 0) := by omega
      have i1' : ((x.Steps[n].Asks.length : Int) = 0) := by omega
      go_wp2
      refine bodyPost_ret (v := .agg #[.int .i64 0, .bool false, .int .i64 x.Steps[n].Else, .string ⟨#[]⟩]) (by simp [results, Tryz.results162, go_sem, *]) rfl ?_
      exact ⟨by rw [E1.out, e1.out]; rfl, by repeat first|with_reducible (first|exact Below.refl _ _|exact hbq|refine below_al ?_ _|refine below_dr ?_ _|refine below_d1 ?_)|(with_reducible refine Below.setCell ?_ ?_ _;rotate_left;next => first|(simp;done)|(simp;omega)|omega)⟩

end Go.Proofs.YtkpkfihaihoaeaaGreatDoor.M
end
section
set_option linter.unusedVariables false
set_option linter.unusedSimpArgs false
namespace Go.Proofs.YtkpkfihaihoaeaaGreatDoor.M
open Go.RowKit

/-- the text up to a place -/
def outTo (give : ByteArray) (ts : List ByteArray) (k : Nat) : ByteArray := give ++ ⟨#[40]⟩ ++ joinB (ts.take k)
theorem outTo_zero (give : ByteArray) (ts : List ByteArray) : outTo give ts 0 = give ++ ⟨#[40]⟩ := by
 unfold outTo; rw [joinB_zero]; apply ByteArray.ext; simp
theorem outTo_one (give : ByteArray) (ts : List ByteArray) (h : 0 < ts.length) : outTo give ts 0 ++ ts[0] = outTo give ts 1 := by
 rw [outTo_zero]; unfold outTo; rw [joinB_one ts h]
theorem outTo_succ (give : ByteArray) (ts : List ByteArray) (k : Nat) (h : k + 1 < ts.length) : outTo give ts (k + 1) ++ ⟨#[44]⟩ ++ ts[k + 1] = outTo give ts (k + 2) := by
 unfold outTo; rw [joinB_succ ts k h]; apply ByteArray.ext; simp
theorem outTo_first (give : ByteArray) (ts : List ByteArray) (k : Nat) (h0 : k = 0) (h : k < ts.length) : outTo give ts k ++ ts[k] = outTo give ts (k + 1) := by
 subst h0; exact outTo_one give ts h
theorem outTo_next (give : ByteArray) (ts : List ByteArray) (k : Nat) (h0 : 0 < k) (h : k < ts.length) : outTo give ts k ++ ⟨#[44]⟩ ++ ts[k] = outTo give ts (k + 1) := by
 obtain ⟨k, rfl⟩ : ∃ j, k = j + 1 := ⟨k - 1, by omega⟩
 exact outTo_succ give ts k h
theorem outTo_size (give : ByteArray) (ts : List ByteArray) (k : Nat) (hg : ¬30 < give.size) (hn : ¬100 < ts.length) (h : allTo txtOk ts k) (hk : k ≤ ts.length) : (outTo give ts k).size ≤ 30000 := by
 have := joinB_take_size ts k h hk
 unfold outTo
 simp only [ByteArray.size_append]
 have : (⟨#[40]⟩ : ByteArray).size = 1 := rfl
 omega
theorem outTo_end (give : ByteArray) (ts : List ByteArray) : outTo give ts ts.length ++ ⟨#[41]⟩ = whole give ts := by
 unfold outTo whole; rw [List.take_length]

def tab16 : ByteArray := ⟨#[48, 49, 50, 51, 52, 53, 54, 55, 56, 57, 97, 98, 99, 100, 101, 102]⟩
theorem dig_all : ∀ q : Fin 16, (((tab16.extract q.val 16).extract 0 1).data.toList == (strOfNums [hd16 q.val]).data.toList) = true := by decide +kernel
theorem dig_at (q : Nat) (hq : q < 16) : (tab16.extract q 16).extract 0 1 = strOfNums [hd16 q] := by
 have h := dig_all ⟨q, hq⟩
 rw [beq_iff_eq] at h
 exact ByteArray.ext (Array.toList_inj.mp h)
theorem nums_cons (x : Int) (l : List Int) : strOfNums [x] ++ strOfNums l = strOfNums (x :: l) := by
 apply ByteArray.ext; simp [strOfNums]
set_option maxRecDepth 100000 in
set_option maxHeartbeats 2000000 in
theorem sFinish_calls {t : Nat} (give : ByteArray) (ts : List ByteArray) (v : Value) (w : World) (h : rep w (strsT t ts) v) (hgs : give.size ≤ 9223372036854775807) (hz : ∀ x ∈ ts, x.size ≤ 9223372036854775807) :
  Calls Tryz.prog 175 #[.string give, v] w fun e w' => e = .returned (.string (finish give ts)) ∧ Below w.heap.size w w' := by
 obtain ⟨A, c, rfl, _, hn⟩ := rep_len h
 have H := Asd.mk h
 replace hz := Asd.mk hz
 by_cases p1 : 30 < give.size
 ·have e1 := Hid.mk' (show finish give ts = ⟨#[]⟩ by simp [finish, p1])
  have i1 : (30 : Int) < (give.size : Nat) := by omega
  go_enter Tryz.func175, Tryz.ntmps175
  go_wp2
  go_ret
  exact ⟨by rw [e1.out]; rfl, Below.refl _ _⟩
 have i1 : ¬(30 : Int) < (give.size : Nat) := by omega
 by_cases p2 : 100 < ts.length
 ·have e1 := Hid.mk' (show finish give ts = ⟨#[]⟩ by simp [finish, p2])
  have i2 : (100 : Int) < (ts.length : Nat) := by omega
  go_enter Tryz.func175, Tryz.ntmps175
  go_wp2
  go_ret
  exact ⟨by rw [e1.out]; rfl, Below.refl _ _⟩
 have i2 : ¬(100 : Int) < (ts.length : Nat) := by omega
 go_enter Tryz.func175, Tryz.ntmps175
 go_wp2
 go_loop [5, 6] (fun o i => ∃ k : Nat, k ≤ ts.length ∧ i = .int .i64 k ∧ o = .string (outTo give ts k) ∧ allTo txtOk ts k) (fun _ i => ts.length - (intOf i).toNat)
 case atStart => exact ⟨0, by omega, rfl, by rw [outTo_zero], allTo_zero _ _⟩
 case round =>
  obtain ⟨k, hk, rfl, rfl, hA⟩ := hrel
  have hos := outTo_size give ts k p1 p2 hA hk
  by_cases hlt : k < ts.length
  ·obtain ⟨a, c', he, hcell⟩ := str_elem H.out hlt
   cases he
   have hs := hz.out _ (List.getElem_mem hlt)
   by_cases hx : ts[k].size ≤ 200
   ·have e1 := allTo_succ (p := txtOk) hA hlt (by simp [txtOk, hx])
    have i3 : ¬(200 : Int) < (ts[k].size : Nat) := by omega
    by_cases h0 : k = 0
    ·have e2 := outTo_first give ts k h0 hlt
     have i4 : ¬(0 : Int) < (k : Int) := by omega
     replace h0 := Asd.mk h0
     go_wp2
     go_round
     case rel => exact ⟨k + 1, by omega, by go_num, by first | done | rw [← e2], e1⟩
     case measure => simp [intOf]; omega
    ·have e2 := outTo_next give ts k (by omega) hlt
     have i4 : (0 : Int) < (k : Int) := by omega
     go_wp2
     go_round
     case rel => exact ⟨k + 1, by omega, by go_num, by first | done | rw [← e2], e1⟩
     case measure => simp [intOf]; omega
   ·have e1 := Hid.mk' (show finish give ts = ⟨#[]⟩ by unfold finish; rw [allTo_not (p := txtOk) hlt (by simp [txtOk]; omega)]; simp)
    have i3 : (200 : Int) < (ts[k].size : Nat) := by omega
    go_wp2
    go_ret
    exact ⟨by rw [e1.out]; rfl, Below.refl _ _⟩
  ·obtain rfl : k = ts.length := by omega
   have hok := Asd.mk (allTo_end hA)
   obtain ⟨s, hs⟩ : ∃ s, outTo give ts ts.length ++ ⟨#[41]⟩ = s := ⟨_, rfl⟩
   have hw := Asd.mk (show whole give ts = s by rw [← hs, outTo_end])
   have hss : s.size ≤ 30001 := by rw [← hs]; simp only [ByteArray.size_append]; have : (⟨#[41]⟩ : ByteArray).size = 1 := rfl; omega
   by_cases q : s.size ≤ 200
   ·have e1 := Hid.mk' (show finish give ts = s by unfold finish; rw [hw.out, hok.out]; simp [p1, p2, q])
    have i3 : (s.size : Int) ≤ 200 := by omega
    go_wp2
    go_ret
    exact ⟨by rw [e1.out]; rfl, Below.refl _ _⟩
   ·have e1 := Hid.mk' (show finish give ts = ⟨#[35]⟩ ++ strOfNums (hexK 16 (hashTo s s.size)) by unfold finish; rw [hw.out, hok.out]; simp [p1, p2, q])
    have i3 : ¬(s.size : Int) ≤ 200 := by omega
    clear hA hlt hk
    go_wp2
    clear hs
    go_loop [7, 8] (fun a i => ∃ k : Nat, k ≤ s.size ∧ i = .int .i64 k ∧ a = .int .u64 (hashTo s k : Nat)) (fun _ i => s.size - (intOf i).toNat)
    case atStart => exact ⟨0, by omega, rfl, by rw [hashTo_zero]; rfl⟩
    case round =>
     obtain ⟨k, hk, rfl, rfl⟩ := hrel
     by_cases hlt : k < s.size
     ·have e2 := hashStep s k hlt
      have e4 : IntKind.u64.wrap ((s[k].toNat : Nat) : Int) = ((s[k].toNat : Nat) : Int) := by rw [IntKind.wrap_u64]; have := s[k].toNat_lt; omega
      obtain ⟨H0, hH0⟩ : ∃ H0 : Nat, hashTo s k = H0 := ⟨_, rfl⟩
      obtain ⟨H1, hH1⟩ : ∃ H1 : Nat, hashTo s (k + 1) = H1 := ⟨_, rfl⟩
      have e3 := Asd.mk hH1
      rw [hH0, hH1] at e2
      rw [hH0]
      clear hH0 hH1
      go_wp2
      go_round
      case rel => exact ⟨k + 1, by omega, by go_num, by rw [e3.out]; first | done | rfl | rw [e4, e2] | rw [e2]⟩
      case measure => simp [intOf]; omega
     ·obtain rfl : k = s.size := by omega
      have hl := hashTo_lt s s.size
      obtain ⟨n, hn'⟩ : ∃ n : Nat, hashTo s s.size = n := ⟨_, rfl⟩
      rw [hn'] at e1 hl ⊢
      go_wp2
      go_loop [7, 9, 10] (fun v d i => ∃ (k m : Nat) (dl : List Int), k ≤ 16 ∧ i = .int .i64 k ∧ v = .int .u64 m ∧ d = .string (strOfNums dl) ∧ dl.length = k ∧ m < 18446744073709551616 ∧ hexK 16 n = hexK (16 - k) m ++ dl) (fun _ _ i => 16 - (intOf i).toNat)
      case atStart => exact ⟨0, n, [], by omega, rfl, rfl, rfl, rfl, hl, by simp⟩
      case round =>
       obtain ⟨k, m, dl, hk, rfl, rfl, rfl, hdl, hm, hx⟩ := hrel
       by_cases hlt : k < 16
       ·obtain ⟨q, hq⟩ : ∃ q, m % 16 = q := ⟨_, rfl⟩
        have hq16 : q < 16 := by omega
        have j1 : ((m : Nat) : Int) % 16 = (q : Nat) := by omega
        have j2 : ((m : Nat) : Int).tmod 16 = (q : Nat) := by rw [Int.tmod_eq_emod_of_nonneg (by omega)]; exact j1
        have j3 : ((m : Nat) : Int).tdiv 16 = ((m / 16 : Nat) : Int) := by rw [Int.tdiv_eq_ediv_of_nonneg (by omega)]; omega
        have hsd : (strOfNums dl).size = k := by rw [strOfNums_size, hdl]
        have h9 := dig_at q hq16
        simp only [tab16] at h9
        have e2 : hexK (16 - k) m = hexK (16 - (k + 1)) (m / 16) ++ [hd16 q] := by
         rw [show 16 - k = (16 - (k + 1)) + 1 by omega, hexK, hq]
        replace h9 := Asd.mk h9
        replace e2 := Asd.mk e2
        go_wp2
        go_round
        case rel => exact ⟨k + 1, m / 16, hd16 q :: dl, by omega, by go_num, by go_num, by rw [h9.out, nums_cons], by simp [hdl], by omega, by rw [hx, e2.out]; simp⟩
        case measure => simp [intOf]; omega
       ·obtain rfl : k = 16 := by omega
        replace e1 := Hid.mk' (show finish give ts = ⟨#[35]⟩ ++ strOfNums dl by rw [e1.out, hx]; rfl)
        have hsd : (strOfNums dl).size = 16 := by rw [strOfNums_size, hdl]
        go_wp2
        go_ret
        exact ⟨by rw [e1.out]; rfl, Below.refl _ _⟩
end Go.Proofs.YtkpkfihaihoaeaaGreatDoor.M
end
